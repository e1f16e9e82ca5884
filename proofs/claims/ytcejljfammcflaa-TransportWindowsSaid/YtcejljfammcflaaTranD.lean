/-
  The transport's functions, third part: what is valid.
-/
import Derived.Test.YtcejljfammcflaaTranC
set_option linter.unusedVariables false
set_option linter.unusedSimpArgs false
set_option maxRecDepth 10000
set_option maxHeartbeats 1000000
namespace Go.Proofs.Tran
open Go Go.Vc

noncomputable def inl2 : List (Nat × Func) := (37, Try.f37) :: inl1
theorem inl2_ok : All (fun f fn => FnOk (PP ()) f fn ∧ fnCodeOk fn = true) inl2 := ⟨⟨fnOk_of Try.func37 (by kernel_rfl), by kernel_rfl⟩, inl1_ok⟩
noncomputable def ctx7a : Ctx := { tt := tt, el := el, sp := fun f => tab sp7 f, inl := fun f => tab inl2 f }
theorem ctx7a_ok : ctx7a.Ok (PP ()) := ⟨tt_ok, el_ok ctx7a rfl, tab_all sp7_ok, fun f fn h => (tab_all inl2_ok f fn h).1, mixed⟩
theorem ctx7a_inl : InlOk ctx7a := fun f fn h => (tab_all inl2_ok f fn h).2

/-- The first message that is too long. -/
def idx (l : List (List Int)) : Int := if short l then -1 else (l.findIdx fun b => decide (256 < b.length) : Nat)
theorem idx_at {l : List (List Int)} {i : Nat} {v : List Int} (hv : l[i]? = some v) (h : 256 < v.length) (hb : ∀ j b, j < i → l[j]? = some b → b.length ≤ 256) : (i : Int) = idx l := by
  have hs : short l = false := by
    rw [short, List.all_eq_false]
    exact ⟨v, List.mem_of_getElem? hv, by simp; omega⟩
  have hlt := (List.getElem?_eq_some_iff.1 hv).1
  have hf : (l.findIdx fun b => decide (256 < b.length)) = i := by
    rw [List.findIdx_eq hlt]
    refine ⟨?_, fun j hj => ?_⟩
    · have : l[i] = v := by have := List.getElem?_eq_getElem hlt; rw [hv] at this; simpa using this.symm
      simp [this, h]
    · have := hb j l[j] hj (List.getElem?_eq_getElem (by omega))
      simp; omega
  simp [idx, hs, hf]
theorem idx_none {l : List (List Int)} (hb : ∀ (j : Nat) b, l[j]? = some b → b.length ≤ 256) : -1 = idx l := by
  have hs : short l = true := by
    rw [short, List.all_eq_true]
    intro b h
    obtain ⟨j, hj⟩ := List.getElem?_of_mem h
    simpa using hb j b hj
  simp [idx, hs]
def IndexFuncS : Vc.Spec where
  α := List (List Int)
  args x := [.sl 1 cB (fun _ => x), .fn (.func 37) [] []]
  pre x := x.length < 2305843009213693952
  res x := .i .i64 (fun _ => idx x)
theorem IndexFunc_ok : SpecOk (PP ()) 51 IndexFuncS := by
  refine spec_of_vc (lv := 2) ctx7a_ok ctx7a_inl (fnOk_of Try.func51 (by kernel_rfl)) (by kernel_rfl) (fun a => by simp [IndexFuncS, LFL, LF, cB, cU8]) (fun a => trivial) ?_
  intro x hx
  change List (List Int) at x
  have hx : x.length < 2305843009213693952 := hx
  refine ⟨?_⟩
  cbv
  refine Sat.loop ctx7a_ok ctx7a_inl (lv := 2) (by kernel_rfl) 0 [] (fun i : Nat => ⟨[.sl 1 cB (fun _ => x), .fn (.func 37) [] [], .any, .any, .any, .any, .any, .i .i64 (fun _ => (x.length : Int)), .i .i64 (fun _ => (i : Int))] ++ anys 10, []⟩)
    (fun i => i ≤ x.length ∧ ∀ j b, j < i → x[j]? = some b → b.length ≤ 256) (fun i => x.length - i) 0 (by ((try cbv) <;> (repeat' (first | with_reducible exact trivial | with_reducible refine And.intro ?_ ?_)) <;> (try first | exact SlotLe.refl _ | exact SlotLe.dyn rfl | refine SlotLe.fix ?_ | refine SlotLe.dyn ?_) <;> ((repeat' first | exact LeL.nil | exact Le.refl _ | refine LeL.cons ?_ ?_ | exact Le.ic rfl | exact Le.bc rfl | exact Le.i rfl | exact Le.b rfl | exact Le.sl rfl | exact Le.nils rfl (fun _ => ⟨trivial, trivial⟩) | refine Le.lst rfl (fun _ _ => rfl) (fun _ => ⟨trivial, trivial⟩) ?_ | refine Le.lst rfl (fun _ _ => rfl) (fun _ => ⟨fun _ => ⟨trivial, trivial⟩, trivial⟩) ?_ | exact Le.nils rfl (fun _ => ⟨fun _ => ⟨trivial, trivial⟩, trivial⟩) | refine Le.agg ?_ | refine Le.tup ?_ | exact Le.any _))) <;> exact .ic rfl) (by ((try cbv) <;> (repeat' (first | with_reducible exact trivial | with_reducible refine And.intro ?_ ?_)) <;> (try first | exact SlotLe.refl _ | exact SlotLe.dyn rfl | refine SlotLe.fix ?_ | refine SlotLe.dyn ?_) <;> ((repeat' first | exact LeL.nil | exact Le.refl _ | refine LeL.cons ?_ ?_ | exact Le.ic rfl | exact Le.bc rfl | exact Le.i rfl | exact Le.b rfl | exact Le.sl rfl | exact Le.nils rfl (fun _ => ⟨trivial, trivial⟩) | refine Le.lst rfl (fun _ _ => rfl) (fun _ => ⟨trivial, trivial⟩) ?_ | refine Le.lst rfl (fun _ _ => rfl) (fun _ => ⟨fun _ => ⟨trivial, trivial⟩, trivial⟩) ?_ | exact Le.nils rfl (fun _ => ⟨fun _ => ⟨trivial, trivial⟩, trivial⟩) | refine Le.agg ?_ | refine Le.tup ?_ | exact Le.any _)))) ⟨by omega, fun j b h => by omega⟩ ?_
  rintro i ⟨hi, ht⟩
  cbv
  refine ⟨fun h2 => ?_, fun h2 => ?_⟩
  · have h2 := h2.out
    have hlt : i < x.length := by simp [ltB] at h2; ((try simp only [Go.Vc.natc] at *); omega)
    obtain ⟨v, hv⟩ : ∃ v, x[i]? = some v := ⟨_, List.getElem?_eq_getElem hlt⟩
    cbv
    refine ⟨v, ⟨Int.natCast_nonneg i, hv⟩, ?_⟩
    cbv
    refine ⟨fun h3 => ?_, fun h3 => ?_⟩
    · have h3 := h3.out
      have h3 : 256 < v.length := by simp [ltB] at h3; ((try simp only [Go.Vc.natc] at *); omega)
      have hr := idx_at hv h3 ht
      cbv
      exact ⟨.i hr⟩
    · have h3 := h3.out
      have h3 : v.length ≤ 256 := by simp [ltB] at h3; ((try simp only [Go.Vc.natc] at *); omega)
      cbv
      refine ⟨i + 1, by ((try cbv) <;> (repeat' (first | with_reducible exact trivial | with_reducible refine And.intro ?_ ?_)) <;> (try first | exact SlotLe.refl _ | exact SlotLe.dyn rfl | refine SlotLe.fix ?_ | refine SlotLe.dyn ?_) <;> ((repeat' first | exact LeL.nil | exact Le.refl _ | refine LeL.cons ?_ ?_ | exact Le.ic rfl | exact Le.bc rfl | exact Le.i rfl | exact Le.b rfl | exact Le.sl rfl | exact Le.nils rfl (fun _ => ⟨trivial, trivial⟩) | refine Le.lst rfl (fun _ _ => rfl) (fun _ => ⟨trivial, trivial⟩) ?_ | refine Le.lst rfl (fun _ _ => rfl) (fun _ => ⟨fun _ => ⟨trivial, trivial⟩, trivial⟩) ?_ | exact Le.nils rfl (fun _ => ⟨fun _ => ⟨trivial, trivial⟩, trivial⟩) | refine Le.agg ?_ | refine Le.tup ?_ | exact Le.any _))) <;> (refine .i ?_; show IntKind.i64.wrap ((i : Int) + 1) = ((i + 1 : Nat) : Int); rw [w64 (by omega) (by omega)]; rfl), by ((try cbv) <;> (repeat' (first | with_reducible exact trivial | with_reducible refine And.intro ?_ ?_)) <;> (try first | exact SlotLe.refl _ | exact SlotLe.dyn rfl | refine SlotLe.fix ?_ | refine SlotLe.dyn ?_) <;> ((repeat' first | exact LeL.nil | exact Le.refl _ | refine LeL.cons ?_ ?_ | exact Le.ic rfl | exact Le.bc rfl | exact Le.i rfl | exact Le.b rfl | exact Le.sl rfl | exact Le.nils rfl (fun _ => ⟨trivial, trivial⟩) | refine Le.lst rfl (fun _ _ => rfl) (fun _ => ⟨trivial, trivial⟩) ?_ | refine Le.lst rfl (fun _ _ => rfl) (fun _ => ⟨fun _ => ⟨trivial, trivial⟩, trivial⟩) ?_ | exact Le.nils rfl (fun _ => ⟨fun _ => ⟨trivial, trivial⟩, trivial⟩) | refine Le.agg ?_ | refine Le.tup ?_ | exact Le.any _))), ⟨⟨by omega, fun j b hj hb => ?_⟩, by show x.length - (i + 1) < x.length - i; omega⟩⟩
      by_cases hji : j = i
      · subst hji; rw [hv] at hb; cases hb; exact h3
      · exact ht j b (by omega) hb
  · have h2 := h2.out
    have hlt : ¬ i < x.length := by simp [ltB] at h2; ((try simp only [Go.Vc.natc] at *); omega)
    have hr := idx_none (l := x) fun j b hb => ht j b (by have := (List.getElem?_eq_some_iff.1 hb).1; omega) hb
    cbv
    exact ⟨.ic hr⟩

noncomputable def sp7b : List (Nat × Vc.Spec) := (51, IndexFuncS) :: sp7
theorem sp7b_ok : All (fun f S => SpecOk (PP ()) f S) sp7b := ⟨IndexFunc_ok, sp7_ok⟩
noncomputable def ctx7b : Ctx := { tt := tt, el := el, sp := fun f => tab sp7b f, inl := fun f => tab inl2 f }
theorem ctx7b_ok : ctx7b.Ok (PP ()) := ⟨tt_ok, el_ok ctx7b rfl, tab_all sp7b_ok, fun f fn h => (tab_all inl2_ok f fn h).1, mixed⟩
theorem ctx7b_inl : InlOk ctx7b := fun f fn h => (tab_all inl2_ok f fn h).2
def ContainsFuncS : Vc.Spec where
  α := List (List Int)
  args x := [.sl 1 cB (fun _ => x), .fn (.func 37) [] []]
  pre x := x.length < 2305843009213693952
  res x := .b (fun _ => !short x)
theorem ContainsFunc_ok : SpecOk (PP ()) 38 ContainsFuncS := by
  refine spec_of_vc (lv := 2) ctx7b_ok ctx7b_inl (fnOk_of Try.func38 (by kernel_rfl)) (by kernel_rfl) (fun a => by simp [ContainsFuncS, LFL, LF, cB, cU8]) (fun a => trivial) ?_
  intro x hx
  change List (List Int) at x
  have hx : x.length < 2305843009213693952 := hx
  refine ⟨?_⟩
  cbv
  refine ⟨x, ⟨by cbv; ((repeat' first | exact LeL.nil | exact Le.refl _ | refine LeL.cons ?_ ?_ | exact Le.ic rfl | exact Le.bc rfl | exact Le.i rfl | exact Le.b rfl | exact Le.sl rfl | exact Le.nils rfl (fun _ => ⟨trivial, trivial⟩) | refine Le.lst rfl (fun _ _ => rfl) (fun _ => ⟨trivial, trivial⟩) ?_ | refine Le.lst rfl (fun _ _ => rfl) (fun _ => ⟨fun _ => ⟨trivial, trivial⟩, trivial⟩) ?_ | exact Le.nils rfl (fun _ => ⟨fun _ => ⟨trivial, trivial⟩, trivial⟩) | refine Le.agg ?_ | refine Le.tup ?_ | exact Le.any _)), hx, rfl⟩, ?_⟩
  cbv
  exact ⟨.b (by unfold idx; cases short x <;> simp [leB])⟩

noncomputable def sp8 : List (Nat × Vc.Spec) := (38, ContainsFuncS) :: sp7b
theorem sp8_ok : All (fun f S => SpecOk (PP ()) f S) sp8 := ⟨ContainsFunc_ok, sp7b_ok⟩
noncomputable def ctx8 : Ctx := { tt := tt, el := el, sp := fun f => tab sp8 f, inl := fun f => tab inl2 f }
theorem ctx8_ok : ctx8.Ok (PP ()) := ⟨tt_ok, el_ok ctx8 rfl, tab_all sp8_ok, fun f fn h => (tab_all inl2_ok f fn h).1, mixed⟩
theorem ctx8_inl : InlOk ctx8 := fun f fn h => (tab_all inl2_ok f fn h).2

def Lk.valid (l : Lk) : Bool := decide (l.out.length ≤ 32) && decide (l.ins.length ≤ 64) && short l.out && short l.ins && leB 0 l.base && leB l.base (1000000000 - (l.out.length : Int)) && leB (l.ins.length : Int) l.got && leB l.got 1000000000
def ValidS : Vc.Spec where
  α := Lk
  args x := [.agg (Lk.cells fun _ => x)]
  pre x := x.out.length < 2305843009213693952 ∧ x.ins.length < 2305843009213693952
  res x := .b (fun _ => x.valid)
theorem RValid_ok : SpecOk (PP ()) 16 ValidS := by
  refine spec_of_vc (lv := 2) ctx8_ok ctx8_inl (fnOk_of Try.func16 (by kernel_rfl)) (by kernel_rfl) (fun a => by simp [ValidS, LFL, LF, Lk.cells, cB, cU8]) (fun a => trivial) ?_
  intro x hx
  change Lk at x
  obtain ⟨h1, h2⟩ : x.out.length < 2305843009213693952 ∧ x.ins.length < 2305843009213693952 := hx
  refine ⟨?_⟩
  cbv
  refine ⟨fun e => ?_, fun e => ?_⟩
  · have e : ltB 32 (x.out.length : Int) = true := e.out
    cbv
    exact ⟨.bc (by simp [ltB] at e; simp [Lk.valid]; ((try simp only [Go.Vc.natc] at *); omega))⟩
  have e1 : ltB 32 (x.out.length : Int) = false := e.out
  have f1 : x.out.length ≤ 32 := by simp [ltB] at e1; omega
  cbv
  refine ⟨fun e => ?_, fun e => ?_⟩
  · have e : ltB 64 (x.ins.length : Int) = true := e.out
    cbv
    exact ⟨.bc (by simp [ltB] at e; simp [Lk.valid]; ((try simp only [Go.Vc.natc] at *); omega))⟩
  have e2 : ltB 64 (x.ins.length : Int) = false := e.out
  have f2 : x.ins.length ≤ 64 := by simp [ltB] at e2; omega
  cbv
  refine ⟨x.out, ⟨by ((repeat' first | exact LeL.nil | exact Le.refl _ | refine LeL.cons ?_ ?_ | exact Le.ic rfl | exact Le.bc rfl | exact Le.i rfl | exact Le.b rfl | exact Le.sl rfl | exact Le.nils rfl (fun _ => ⟨trivial, trivial⟩) | refine Le.lst rfl (fun _ _ => rfl) (fun _ => ⟨trivial, trivial⟩) ?_ | refine Le.lst rfl (fun _ _ => rfl) (fun _ => ⟨fun _ => ⟨trivial, trivial⟩, trivial⟩) ?_ | exact Le.nils rfl (fun _ => ⟨fun _ => ⟨trivial, trivial⟩, trivial⟩) | refine Le.agg ?_ | refine Le.tup ?_ | exact Le.any _)), by show x.out.length < _; omega⟩, ?_⟩
  cbv
  refine ⟨fun e => ?_, fun e => ?_⟩
  · have e : (!(short x.out)) = true := e.out
    cbv
    exact ⟨.bc (by simp [Lk.valid]; simp at e; simp [e])⟩
  have e3 : (!(short x.out)) = false := e.out
  cbv
  refine ⟨x.ins, ⟨by ((repeat' first | exact LeL.nil | exact Le.refl _ | refine LeL.cons ?_ ?_ | exact Le.ic rfl | exact Le.bc rfl | exact Le.i rfl | exact Le.b rfl | exact Le.sl rfl | exact Le.nils rfl (fun _ => ⟨trivial, trivial⟩) | refine Le.lst rfl (fun _ _ => rfl) (fun _ => ⟨trivial, trivial⟩) ?_ | refine Le.lst rfl (fun _ _ => rfl) (fun _ => ⟨fun _ => ⟨trivial, trivial⟩, trivial⟩) ?_ | exact Le.nils rfl (fun _ => ⟨fun _ => ⟨trivial, trivial⟩, trivial⟩) | refine Le.agg ?_ | refine Le.tup ?_ | exact Le.any _)), by show x.ins.length < _; omega⟩, ?_⟩
  cbv
  refine ⟨fun e => ?_, fun e => ?_⟩
  · have e : (!(short x.ins)) = true := e.out
    cbv
    exact ⟨.bc (by simp [Lk.valid]; simp at e; simp [e])⟩
  have e4 : (!(short x.ins)) = false := e.out
  cbv
  have hw : IntKind.i64.wrap (1000000000 - (x.out.length : Int)) = 1000000000 - (x.out.length : Int) := w64 (by omega) (by omega)
  cbv
  refine ⟨fun e => ?_, fun e => ?_⟩
  rotate_left
  · have e : leB 0 x.base = false := e.out
    cbv
    exact ⟨.bc (by simp only [Lk.valid]; rw [e]; simp)⟩
  have e5 : leB 0 x.base = true := e.out
  cbv
  refine ⟨fun e => ?_, fun e => ?_⟩
  rotate_left
  · have e : leB x.base (IntKind.i64.wrap (1000000000 - (x.out.length : Int))) = false := e.out
    rw [show IntKind.i64.wrap (1000000000 - (x.out.length : Int)) = 1000000000 - (x.out.length : Int) from hw] at e
    cbv
    exact ⟨.bc (by simp only [Lk.valid]; rw [e]; simp)⟩
  have e6 : leB x.base (IntKind.i64.wrap (1000000000 - (x.out.length : Int))) = true := e.out
  rw [show IntKind.i64.wrap (1000000000 - (x.out.length : Int)) = 1000000000 - (x.out.length : Int) from hw] at e6
  cbv
  refine ⟨fun e => ?_, fun e => ?_⟩
  rotate_left
  · have e : leB (x.ins.length : Int) x.got = false := e.out
    cbv
    exact ⟨.bc (by simp only [Lk.valid]; rw [e]; simp)⟩
  have e7 : leB (x.ins.length : Int) x.got = true := e.out
  cbv
  exact ⟨.b (by
    simp at e3 e4
    simp only [Lk.valid]
    rw [e3, e4, e5, e6, e7]
    simp [f1, f2])⟩

theorem Valid_ok : SpecOk (PP ()) 15 ValidS := by
  refine spec_of_vc (lv := 2) ctx8_ok ctx8_inl (fnOk_of Try.func15 (by kernel_rfl)) (by kernel_rfl) (fun a => by simp [ValidS, LFL, LF, Lk.cells, cB, cU8]) (fun a => trivial) ?_
  intro x hx
  change Lk at x
  obtain ⟨h1, h2⟩ : x.out.length < 2305843009213693952 ∧ x.ins.length < 2305843009213693952 := hx
  refine ⟨?_⟩
  cbv
  refine ⟨fun e => ?_, fun e => ?_⟩
  · have e : ltB 32 (x.out.length : Int) = true := e.out
    cbv
    exact ⟨.bc (by simp [ltB] at e; simp [Lk.valid]; ((try simp only [Go.Vc.natc] at *); omega))⟩
  have e1 : ltB 32 (x.out.length : Int) = false := e.out
  have f1 : x.out.length ≤ 32 := by simp [ltB] at e1; omega
  cbv
  refine ⟨fun e => ?_, fun e => ?_⟩
  · have e : ltB 64 (x.ins.length : Int) = true := e.out
    cbv
    exact ⟨.bc (by simp [ltB] at e; simp [Lk.valid]; ((try simp only [Go.Vc.natc] at *); omega))⟩
  have e2 : ltB 64 (x.ins.length : Int) = false := e.out
  have f2 : x.ins.length ≤ 64 := by simp [ltB] at e2; omega
  cbv
  refine ⟨x.out, ⟨by cbv; ((repeat' first | exact LeL.nil | exact Le.refl _ | refine LeL.cons ?_ ?_ | exact Le.ic rfl | exact Le.bc rfl | exact Le.i rfl | exact Le.b rfl | exact Le.sl rfl | exact Le.nils rfl (fun _ => ⟨trivial, trivial⟩) | refine Le.lst rfl (fun _ _ => rfl) (fun _ => ⟨trivial, trivial⟩) ?_ | refine Le.lst rfl (fun _ _ => rfl) (fun _ => ⟨fun _ => ⟨trivial, trivial⟩, trivial⟩) ?_ | exact Le.nils rfl (fun _ => ⟨fun _ => ⟨trivial, trivial⟩, trivial⟩) | refine Le.agg ?_ | refine Le.tup ?_ | exact Le.any _)), by show x.out.length < _; omega, rfl⟩, ?_⟩
  cbv
  refine ⟨fun e => ?_, fun e => ?_⟩
  · have e : (!(short x.out)) = true := e.out
    cbv
    exact ⟨.bc (by simp [Lk.valid]; simp at e; simp [e])⟩
  have e3 : (!(short x.out)) = false := e.out
  cbv
  refine ⟨x.ins, ⟨by cbv; ((repeat' first | exact LeL.nil | exact Le.refl _ | refine LeL.cons ?_ ?_ | exact Le.ic rfl | exact Le.bc rfl | exact Le.i rfl | exact Le.b rfl | exact Le.sl rfl | exact Le.nils rfl (fun _ => ⟨trivial, trivial⟩) | refine Le.lst rfl (fun _ _ => rfl) (fun _ => ⟨trivial, trivial⟩) ?_ | refine Le.lst rfl (fun _ _ => rfl) (fun _ => ⟨fun _ => ⟨trivial, trivial⟩, trivial⟩) ?_ | exact Le.nils rfl (fun _ => ⟨fun _ => ⟨trivial, trivial⟩, trivial⟩) | refine Le.agg ?_ | refine Le.tup ?_ | exact Le.any _)), by show x.ins.length < _; omega, rfl⟩, ?_⟩
  cbv
  refine ⟨fun e => ?_, fun e => ?_⟩
  · have e : (!(short x.ins)) = true := e.out
    cbv
    exact ⟨.bc (by simp [Lk.valid]; simp at e; simp [e])⟩
  have e4 : (!(short x.ins)) = false := e.out
  cbv
  have hw : IntKind.i64.wrap (1000000000 - (x.out.length : Int)) = 1000000000 - (x.out.length : Int) := w64 (by omega) (by omega)
  cbv
  refine ⟨fun e => ?_, fun e => ?_⟩
  rotate_left
  · have e : leB 0 x.base = false := e.out
    cbv
    exact ⟨.bc (by simp only [Lk.valid]; rw [e]; simp)⟩
  have e5 : leB 0 x.base = true := e.out
  cbv
  refine ⟨fun e => ?_, fun e => ?_⟩
  rotate_left
  · have e : leB x.base (IntKind.i64.wrap (1000000000 - (x.out.length : Int))) = false := e.out
    rw [show IntKind.i64.wrap (1000000000 - (x.out.length : Int)) = 1000000000 - (x.out.length : Int) from hw] at e
    cbv
    exact ⟨.bc (by simp only [Lk.valid]; rw [e]; simp)⟩
  have e6 : leB x.base (IntKind.i64.wrap (1000000000 - (x.out.length : Int))) = true := e.out
  rw [show IntKind.i64.wrap (1000000000 - (x.out.length : Int)) = 1000000000 - (x.out.length : Int) from hw] at e6
  cbv
  refine ⟨fun e => ?_, fun e => ?_⟩
  rotate_left
  · have e : leB (x.ins.length : Int) x.got = false := e.out
    cbv
    exact ⟨.bc (by simp only [Lk.valid]; rw [e]; simp)⟩
  have e7 : leB (x.ins.length : Int) x.got = true := e.out
  cbv
  exact ⟨.b (by
    simp at e3 e4
    simp only [Lk.valid]
    rw [e3, e4, e5, e6, e7]
    simp [f1, f2])⟩
end Go.Proofs.Tran
