/-
  The histories' functions: what lies below another one
-/
import Derived.Test.YtpbechemimnikaaHisK
set_option linter.unusedVariables false
set_option linter.unusedSimpArgs false
set_option maxRecDepth 10000
set_option maxHeartbeats 2000000
namespace Go.Proofs.Hist
open Go Go.Vc

structure LMX where
  l : List Int
  m : Int → Option (Int → Bool)
  x : Int
/-- y is another one, of which x is an ancestor. -/
def overB (m : Int → Option (Int → Bool)) (x y : Int) : Bool := !(y == x) && ((m y).getD fun _ => false) x
def OverS : Vc.Spec where
  α := LMX
  args x := [.sl 1 cU64 (fun _ => x.l), .fn (.func 56) [] [.spt [.i .u64 (fun _ => x.x)] 0, .spt [.mp .u64 cSet (fun _ => x.m)] 0]]
  pre x := x.l.length < 2305843009213693952
  res x := .i .i64 (fun _ => fi (overB x.m x.x) x.l)
noncomputable def inl4 : List (Nat × Func) := (56, Try.f56) :: (55, Try.f55) :: inl3
theorem inl4_ok : All (fun f fn => FnOk (PP ()) f fn ∧ fnCodeOk fn = true) inl4 := ⟨⟨fnOk_of Try.func56 (by kernel_rfl), by kernel_rfl⟩, ⟨fnOk_of Try.func55 (by kernel_rfl), by kernel_rfl⟩, inl3_ok⟩

noncomputable def ctx18 : Ctx := { tt := tt, el := el, sp := fun f => tab sp17 f, inl := fun f => tab inl4 f }
theorem ctx18_ok : ctx18.Ok (PP ()) := ⟨tt_ok, el_ok ctx18 rfl, tab_all sp17_ok, fun f fn h => (tab_all inl4_ok f fn h).1, mixed⟩
theorem ctx18_inl : InlOk ctx18 := fun f fn h => (tab_all inl4_ok f fn h).2
theorem neqB_tru {a b : Int} (h : (!eqB a b) = true) : (a == b) = false := by simpa [eqB] using h
theorem neqB_fls {a b : Int} (h : (!eqB a b) = false) : (a == b) = true := by simpa [eqB] using h
theorem Over_ok : SpecOk (PP ()) 61 OverS := by
  refine spec_of_vc (lv := 2) ctx18_ok ctx18_inl (fnOk_of Try.func61 (by kernel_rfl)) (by kernel_rfl) (fun a => by simp [OverS, LFL, LF, cU64, cCm, Cm.cells, cSet, cTrue]) (fun a => by simp [OverS, LFL, LF, cU64, cCm, Cm.cells, cSet, cTrue]) ?_
  intro x hx
  have hx : x.l.length < 2305843009213693952 := hx
  obtain ⟨p, hp⟩ : ∃ p, p = overB x.m x.x := ⟨_, rfl⟩
  have hr0 : OverS.res x = .i .i64 (fun _ => fi p x.l) := by rw [hp]; rfl
  rw [hr0]
  refine ⟨?_⟩
  cbv
  refine Sat.loopD ctx18_ok ctx18_inl (lv := 2) (by kernel_rfl) 0 8 [] (fun i : Nat => [(8, .i .i64 (fun _ => (i : Int)))]) (fun i => [])
    (fun i => i ≤ x.l.length ∧ (x.l.take i).any p = false) (fun i => x.l.length - i) 0 (by ((try cbv) <;> (repeat' (first | with_reducible exact trivial | with_reducible refine And.intro ?_ ?_)) <;> (try first | exact SlotLe.refl _ | exact SlotLe.dyn rfl | exact SlotLe.map rfl | exact SlotLe.iter rfl rfl (.inl rfl) | exact SlotLe.iter rfl rfl (.inr rfl) | refine SlotLe.fix ?_ | refine SlotLe.dyn ?_) <;> ((repeat' first | exact LeL.nil | exact Le.refl _ | refine LeL.cons ?_ ?_ | exact Le.ic rfl | exact Le.bc rfl | exact Le.i rfl | exact Le.b rfl | exact Le.sl rfl | exact Le.mp rfl | exact Le.csl rfl | exact Le.cslsl rfl | exact Le.nils rfl (fun _ => ⟨trivial, trivial⟩) | refine Le.lst rfl (fun _ _ => rfl) (fun _ => ⟨trivial, trivial⟩) ?_ | refine Le.lst rfl (fun _ _ => rfl) (fun _ => ⟨fun _ => ⟨trivial, trivial⟩, trivial⟩) ?_ | exact Le.nils rfl (fun _ => ⟨fun _ => ⟨trivial, trivial⟩, trivial⟩) | exact Le.nils rfl (fun x => (cCm_ok x).1) | refine Le.lst rfl (fun _ _ => rfl) (fun x => (cCm_ok x).1) ?_ | refine Le.agg ?_ | refine Le.tup ?_ | refine Le.fn ?_ ?_ | refine Le.spt ?_ | exact Le.any _)))) (by ((try cbv) <;> (repeat' (first | with_reducible exact trivial | with_reducible refine And.intro ?_ ?_)) <;> (try first | exact SlotLe.refl _ | exact SlotLe.dyn rfl | exact SlotLe.map rfl | exact SlotLe.iter rfl rfl (.inl rfl) | exact SlotLe.iter rfl rfl (.inr rfl) | refine SlotLe.fix ?_ | refine SlotLe.dyn ?_) <;> ((repeat' first | exact LeL.nil | exact Le.refl _ | refine LeL.cons ?_ ?_ | exact Le.ic rfl | exact Le.bc rfl | exact Le.i rfl | exact Le.b rfl | exact Le.sl rfl | exact Le.mp rfl | exact Le.csl rfl | exact Le.cslsl rfl | exact Le.nils rfl (fun _ => ⟨trivial, trivial⟩) | refine Le.lst rfl (fun _ _ => rfl) (fun _ => ⟨trivial, trivial⟩) ?_ | refine Le.lst rfl (fun _ _ => rfl) (fun _ => ⟨fun _ => ⟨trivial, trivial⟩, trivial⟩) ?_ | exact Le.nils rfl (fun _ => ⟨fun _ => ⟨trivial, trivial⟩, trivial⟩) | exact Le.nils rfl (fun x => (cCm_ok x).1) | refine Le.lst rfl (fun _ _ => rfl) (fun x => (cCm_ok x).1) ?_ | refine Le.agg ?_ | refine Le.tup ?_ | refine Le.fn ?_ ?_ | refine Le.spt ?_ | exact Le.any _)))) ⟨by omega, by simp⟩ ?_
  rintro i ⟨hi, ht⟩
  cbv
  refine ⟨fun h2 => ?_, fun h2 => ?_⟩
  · have h2 := h2.out
    have hlt : i < x.l.length := by simp [ltB] at h2; ((try simp only [Go.Vc.natc] at *); omega)
    obtain ⟨va, ha⟩ : ∃ v, x.l[i]? = some v := ⟨_, List.getElem?_eq_getElem hlt⟩
    have f1 : p va = true → fi p x.l = (i : Int) := fi_at ht ha
    have f2 : p va = false → (x.l.take (i + 1)).any p = false := any_take ht ha
    have hov : p va = (!(va == x.x) && ((x.m va).getD fun _ => false) x.x) := by rw [hp]; rfl
    cbv
    refine ⟨va, ⟨Int.natCast_nonneg i, ha⟩, ?_⟩
    cbv
    refine ⟨fun h3 => ?_, fun h3 => ?_⟩
    · have e3 : (va == x.x) = false := neqB_tru h3.out
      rw [e3] at hov
      rcases hm : x.m va with _ | s
      · rw [hm] at hov
        have f2 := f2 hov
        refine ⟨some none, ⟨hm⟩, ?_⟩
        cbv
        refine ⟨(), ⟨rfl⟩, ?_⟩
        cbv
        exact ⟨i + 1, by ((try cbv) <;> (repeat' (first | with_reducible exact trivial | with_reducible refine And.intro ?_ ?_)) <;> (try first | exact SlotLe.refl _ | exact SlotLe.dyn rfl | exact SlotLe.map rfl | exact SlotLe.iter rfl rfl (.inl rfl) | exact SlotLe.iter rfl rfl (.inr rfl) | refine SlotLe.fix ?_ | refine SlotLe.dyn ?_) <;> ((repeat' first | exact LeL.nil | exact Le.refl _ | refine LeL.cons ?_ ?_ | exact Le.ic rfl | exact Le.bc rfl | exact Le.i rfl | exact Le.b rfl | exact Le.sl rfl | exact Le.mp rfl | exact Le.csl rfl | exact Le.cslsl rfl | exact Le.nils rfl (fun _ => ⟨trivial, trivial⟩) | refine Le.lst rfl (fun _ _ => rfl) (fun _ => ⟨trivial, trivial⟩) ?_ | refine Le.lst rfl (fun _ _ => rfl) (fun _ => ⟨fun _ => ⟨trivial, trivial⟩, trivial⟩) ?_ | exact Le.nils rfl (fun _ => ⟨fun _ => ⟨trivial, trivial⟩, trivial⟩) | exact Le.nils rfl (fun x => (cCm_ok x).1) | refine Le.lst rfl (fun _ _ => rfl) (fun x => (cCm_ok x).1) ?_ | refine Le.agg ?_ | refine Le.tup ?_ | refine Le.fn ?_ ?_ | refine Le.spt ?_ | exact Le.any _))) <;> (refine .i ?_; show IntKind.i64.wrap ((i : Int) + 1) = ((i + 1 : Nat) : Int); rw [w64 (by omega) (by omega)]; rfl), by ((try cbv) <;> (repeat' (first | with_reducible exact trivial | with_reducible refine And.intro ?_ ?_)) <;> (try first | exact SlotLe.refl _ | exact SlotLe.dyn rfl | exact SlotLe.map rfl | exact SlotLe.iter rfl rfl (.inl rfl) | exact SlotLe.iter rfl rfl (.inr rfl) | refine SlotLe.fix ?_ | refine SlotLe.dyn ?_) <;> ((repeat' first | exact LeL.nil | exact Le.refl _ | refine LeL.cons ?_ ?_ | exact Le.ic rfl | exact Le.bc rfl | exact Le.i rfl | exact Le.b rfl | exact Le.sl rfl | exact Le.mp rfl | exact Le.csl rfl | exact Le.cslsl rfl | exact Le.nils rfl (fun _ => ⟨trivial, trivial⟩) | refine Le.lst rfl (fun _ _ => rfl) (fun _ => ⟨trivial, trivial⟩) ?_ | refine Le.lst rfl (fun _ _ => rfl) (fun _ => ⟨fun _ => ⟨trivial, trivial⟩, trivial⟩) ?_ | exact Le.nils rfl (fun _ => ⟨fun _ => ⟨trivial, trivial⟩, trivial⟩) | exact Le.nils rfl (fun x => (cCm_ok x).1) | refine Le.lst rfl (fun _ _ => rfl) (fun x => (cCm_ok x).1) ?_ | refine Le.agg ?_ | refine Le.tup ?_ | refine Le.fn ?_ ?_ | refine Le.spt ?_ | exact Le.any _))), ⟨⟨hlt, f2⟩, by show x.l.length - (i + 1) < x.l.length - i; omega⟩⟩
      · rw [hm] at hov
        refine ⟨some (some s), ⟨hm⟩, ?_⟩
        cbv
        refine ⟨none, ⟨rfl, fun _ => rfl⟩, ?_⟩
        cbv
        refine ⟨fun h4 => ?_, fun h4 => ?_⟩
        · have f1 := f1 (hov.trans (setM_tru h4.out))
          cbv
          exact ⟨.i f1.symm⟩
        · have f2 := f2 (hov.trans (setM_fls h4.out))
          cbv
          exact ⟨i + 1, by ((try cbv) <;> (repeat' (first | with_reducible exact trivial | with_reducible refine And.intro ?_ ?_)) <;> (try first | exact SlotLe.refl _ | exact SlotLe.dyn rfl | exact SlotLe.map rfl | exact SlotLe.iter rfl rfl (.inl rfl) | exact SlotLe.iter rfl rfl (.inr rfl) | refine SlotLe.fix ?_ | refine SlotLe.dyn ?_) <;> ((repeat' first | exact LeL.nil | exact Le.refl _ | refine LeL.cons ?_ ?_ | exact Le.ic rfl | exact Le.bc rfl | exact Le.i rfl | exact Le.b rfl | exact Le.sl rfl | exact Le.mp rfl | exact Le.csl rfl | exact Le.cslsl rfl | exact Le.nils rfl (fun _ => ⟨trivial, trivial⟩) | refine Le.lst rfl (fun _ _ => rfl) (fun _ => ⟨trivial, trivial⟩) ?_ | refine Le.lst rfl (fun _ _ => rfl) (fun _ => ⟨fun _ => ⟨trivial, trivial⟩, trivial⟩) ?_ | exact Le.nils rfl (fun _ => ⟨fun _ => ⟨trivial, trivial⟩, trivial⟩) | exact Le.nils rfl (fun x => (cCm_ok x).1) | refine Le.lst rfl (fun _ _ => rfl) (fun x => (cCm_ok x).1) ?_ | refine Le.agg ?_ | refine Le.tup ?_ | refine Le.fn ?_ ?_ | refine Le.spt ?_ | exact Le.any _))) <;> (refine .i ?_; show IntKind.i64.wrap ((i : Int) + 1) = ((i + 1 : Nat) : Int); rw [w64 (by omega) (by omega)]; rfl), by ((try cbv) <;> (repeat' (first | with_reducible exact trivial | with_reducible refine And.intro ?_ ?_)) <;> (try first | exact SlotLe.refl _ | exact SlotLe.dyn rfl | exact SlotLe.map rfl | exact SlotLe.iter rfl rfl (.inl rfl) | exact SlotLe.iter rfl rfl (.inr rfl) | refine SlotLe.fix ?_ | refine SlotLe.dyn ?_) <;> ((repeat' first | exact LeL.nil | exact Le.refl _ | refine LeL.cons ?_ ?_ | exact Le.ic rfl | exact Le.bc rfl | exact Le.i rfl | exact Le.b rfl | exact Le.sl rfl | exact Le.mp rfl | exact Le.csl rfl | exact Le.cslsl rfl | exact Le.nils rfl (fun _ => ⟨trivial, trivial⟩) | refine Le.lst rfl (fun _ _ => rfl) (fun _ => ⟨trivial, trivial⟩) ?_ | refine Le.lst rfl (fun _ _ => rfl) (fun _ => ⟨fun _ => ⟨trivial, trivial⟩, trivial⟩) ?_ | exact Le.nils rfl (fun _ => ⟨fun _ => ⟨trivial, trivial⟩, trivial⟩) | exact Le.nils rfl (fun x => (cCm_ok x).1) | refine Le.lst rfl (fun _ _ => rfl) (fun x => (cCm_ok x).1) ?_ | refine Le.agg ?_ | refine Le.tup ?_ | refine Le.fn ?_ ?_ | refine Le.spt ?_ | exact Le.any _))), ⟨⟨hlt, f2⟩, by show x.l.length - (i + 1) < x.l.length - i; omega⟩⟩
    · have e3 : (va == x.x) = true := neqB_fls h3.out
      rw [e3] at hov
      have f2 := f2 hov
      cbv
      exact ⟨i + 1, by ((try cbv) <;> (repeat' (first | with_reducible exact trivial | with_reducible refine And.intro ?_ ?_)) <;> (try first | exact SlotLe.refl _ | exact SlotLe.dyn rfl | exact SlotLe.map rfl | exact SlotLe.iter rfl rfl (.inl rfl) | exact SlotLe.iter rfl rfl (.inr rfl) | refine SlotLe.fix ?_ | refine SlotLe.dyn ?_) <;> ((repeat' first | exact LeL.nil | exact Le.refl _ | refine LeL.cons ?_ ?_ | exact Le.ic rfl | exact Le.bc rfl | exact Le.i rfl | exact Le.b rfl | exact Le.sl rfl | exact Le.mp rfl | exact Le.csl rfl | exact Le.cslsl rfl | exact Le.nils rfl (fun _ => ⟨trivial, trivial⟩) | refine Le.lst rfl (fun _ _ => rfl) (fun _ => ⟨trivial, trivial⟩) ?_ | refine Le.lst rfl (fun _ _ => rfl) (fun _ => ⟨fun _ => ⟨trivial, trivial⟩, trivial⟩) ?_ | exact Le.nils rfl (fun _ => ⟨fun _ => ⟨trivial, trivial⟩, trivial⟩) | exact Le.nils rfl (fun x => (cCm_ok x).1) | refine Le.lst rfl (fun _ _ => rfl) (fun x => (cCm_ok x).1) ?_ | refine Le.agg ?_ | refine Le.tup ?_ | refine Le.fn ?_ ?_ | refine Le.spt ?_ | exact Le.any _))) <;> (refine .i ?_; show IntKind.i64.wrap ((i : Int) + 1) = ((i + 1 : Nat) : Int); rw [w64 (by omega) (by omega)]; rfl), by ((try cbv) <;> (repeat' (first | with_reducible exact trivial | with_reducible refine And.intro ?_ ?_)) <;> (try first | exact SlotLe.refl _ | exact SlotLe.dyn rfl | exact SlotLe.map rfl | exact SlotLe.iter rfl rfl (.inl rfl) | exact SlotLe.iter rfl rfl (.inr rfl) | refine SlotLe.fix ?_ | refine SlotLe.dyn ?_) <;> ((repeat' first | exact LeL.nil | exact Le.refl _ | refine LeL.cons ?_ ?_ | exact Le.ic rfl | exact Le.bc rfl | exact Le.i rfl | exact Le.b rfl | exact Le.sl rfl | exact Le.mp rfl | exact Le.csl rfl | exact Le.cslsl rfl | exact Le.nils rfl (fun _ => ⟨trivial, trivial⟩) | refine Le.lst rfl (fun _ _ => rfl) (fun _ => ⟨trivial, trivial⟩) ?_ | refine Le.lst rfl (fun _ _ => rfl) (fun _ => ⟨fun _ => ⟨trivial, trivial⟩, trivial⟩) ?_ | exact Le.nils rfl (fun _ => ⟨fun _ => ⟨trivial, trivial⟩, trivial⟩) | exact Le.nils rfl (fun x => (cCm_ok x).1) | refine Le.lst rfl (fun _ _ => rfl) (fun x => (cCm_ok x).1) ?_ | refine Le.agg ?_ | refine Le.tup ?_ | refine Le.fn ?_ ?_ | refine Le.spt ?_ | exact Le.any _))), ⟨⟨hlt, f2⟩, by show x.l.length - (i + 1) < x.l.length - i; omega⟩⟩
  · have h2 := h2.out
    have hlt : ¬ i < x.l.length := by simp [ltB] at h2; ((try simp only [Go.Vc.natc] at *); omega)
    rw [List.take_of_length_le (by omega)] at ht
    have hr := fi_none ht
    cbv
    exact ⟨.ic hr.symm⟩

noncomputable def sp19 : List (Nat × Vc.Spec) := (61, OverS) :: sp17
theorem sp19_ok : All (fun f S => SpecOk (PP ()) f S) sp19 := ⟨Over_ok, sp17_ok⟩

noncomputable def ctx19 : Ctx := { tt := tt, el := el, sp := fun f => tab sp19 f, inl := fun f => tab inl4 f }
theorem ctx19_ok : ctx19.Ok (PP ()) := ⟨tt_ok, el_ok ctx19 rfl, tab_all sp19_ok, fun f fn h => (tab_all inl4_ok f fn h).1, mixed⟩
theorem ctx19_inl : InlOk ctx19 := fun f fn h => (tab_all inl4_ok f fn h).2

def ShadS : Vc.Spec where
  α := LMX
  args x := [.i .u64 (fun _ => x.x), .spt [.sl 1 cU64 (fun _ => x.l)] 0, .spt [.mp .u64 cSet (fun _ => x.m)] 0]
  pre x := x.l.length < 2305843009213693952
  res x := .b (fun _ => x.l.any (overB x.m x.x))
theorem Shad_ok : SpecOk (PP ()) 55 ShadS := by
  refine spec_of_vc (lv := 2) ctx19_ok ctx19_inl (fnOk_of Try.func55 (by kernel_rfl)) (by kernel_rfl) (fun a => by simp [ShadS, LFL, LF, cU64, cCm, Cm.cells, cSet, cTrue]) (fun a => by simp [ShadS, LFL, LF, cU64, cCm, Cm.cells, cSet, cTrue]) ?_
  intro x hx
  have hx : x.l.length < 2305843009213693952 := hx
  have h1 := fi_any (overB x.m x.x) x.l
  refine ⟨?_⟩
  cbv
  refine ⟨x, ⟨by ((repeat' first | exact LeL.nil | exact Le.refl _ | refine LeL.cons ?_ ?_ | exact Le.ic rfl | exact Le.bc rfl | exact Le.i rfl | exact Le.b rfl | exact Le.sl rfl | exact Le.mp rfl | exact Le.csl rfl | exact Le.cslsl rfl | exact Le.nils rfl (fun _ => ⟨trivial, trivial⟩) | refine Le.lst rfl (fun _ _ => rfl) (fun _ => ⟨trivial, trivial⟩) ?_ | refine Le.lst rfl (fun _ _ => rfl) (fun _ => ⟨fun _ => ⟨trivial, trivial⟩, trivial⟩) ?_ | exact Le.nils rfl (fun _ => ⟨fun _ => ⟨trivial, trivial⟩, trivial⟩) | exact Le.nils rfl (fun x => (cCm_ok x).1) | refine Le.lst rfl (fun _ _ => rfl) (fun x => (cCm_ok x).1) ?_ | refine Le.agg ?_ | refine Le.tup ?_ | refine Le.fn ?_ ?_ | refine Le.spt ?_ | exact Le.any _)), hx, rfl⟩, ?_⟩
  cbv
  exact ⟨.b h1⟩

end Go.Proofs.Hist
