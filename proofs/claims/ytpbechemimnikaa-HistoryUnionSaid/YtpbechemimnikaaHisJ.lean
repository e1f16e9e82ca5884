/-
  The histories' functions: both sets, lists of ancestors
-/
import Derived.Test.YtpbechemimnikaaHisI
set_option linter.unusedVariables false
set_option linter.unusedSimpArgs false
set_option maxRecDepth 10000
set_option maxHeartbeats 2000000
namespace Go.Proofs.Hist
open Go Go.Vc

theorem above_self : ∀ (r : List Cm) {b : Int} {s : Int → Bool}, above r.reverse b = some s → s b = true
  | [], b, s, e => by cases e
  | c :: r, b, s, e => by
    rw [List.reverse_cons, above_snoc] at e
    unfold put at e
    split at e
    · rename_i hb
      cases e
      unfold upOf
      simp [hb]
    · exact above_self r e
theorem above_ne {h : List Cm} {b : Int} {s : Int → Bool} (e : above h b = some s) : ∃ n, ¬ setM s n = none := by
  have := above_self h.reverse (b := b) (s := s) (by rw [List.reverse_reverse]; exact e)
  exact ⟨b, by rw [setM_at this]; simp⟩
def BothS : Vc.Spec where
  α := HAB
  args x := [.sl 4 cCm (fun _ => x.h), .i .u64 (fun _ => x.a), .i .u64 (fun _ => x.b)]
  pre x := Hs x.h
  res x := .tup [.mp .u64 cSet (fun _ => above x.h), .b (fun _ => (above x.h x.a).isSome && (above x.h x.b).isSome)]
theorem Both_ok : SpecOk (PP ()) 51 BothS := by
  refine spec_of_vc (lv := 2) ctx16_ok ctx16_inl (fnOk_of Try.func51 (by kernel_rfl)) (by kernel_rfl) (fun a => by simp [BothS, LFL, LF, cU64, cCm, Cm.cells, cSet, cTrue]) (fun a => by simp [BothS, LFL, LF, cU64, cCm, Cm.cells, cSet, cTrue]) ?_
  intro x hx
  have H : Hs x.h := hx
  have ne : ∀ {b : Int} {s : Int → Bool}, above x.h b = some s → ∃ n, ¬ setM s n = none := fun e => above_ne e
  refine ⟨?_⟩
  cbv
  refine ⟨x.h, ⟨by ((repeat' first | exact LeL.nil | exact Le.refl _ | refine LeL.cons ?_ ?_ | exact Le.ic rfl | exact Le.bc rfl | exact Le.i rfl | exact Le.b rfl | exact Le.sl rfl | exact Le.mp rfl | exact Le.csl rfl | exact Le.cslsl rfl | exact Le.nils rfl (fun _ => ⟨trivial, trivial⟩) | refine Le.lst rfl (fun _ _ => rfl) (fun _ => ⟨trivial, trivial⟩) ?_ | refine Le.lst rfl (fun _ _ => rfl) (fun _ => ⟨fun _ => ⟨trivial, trivial⟩, trivial⟩) ?_ | exact Le.nils rfl (fun _ => ⟨fun _ => ⟨trivial, trivial⟩, trivial⟩) | exact Le.nils rfl (fun x => (cCm_ok x).1) | refine Le.lst rfl (fun _ _ => rfl) (fun x => (cCm_ok x).1) ?_ | refine Le.agg ?_ | refine Le.tup ?_ | refine Le.fn ?_ ?_ | refine Le.spt ?_ | exact Le.any _)), H⟩, ?_⟩
  cbv
  rcases ha : above x.h x.a with _ | s
  · refine ⟨some none, ⟨ha⟩, ?_⟩
    cbv
    exact ⟨⟨rfl, rfl⟩, ⟨Le.tup (by ((repeat' first | exact LeL.nil | exact Le.refl _ | refine LeL.cons ?_ ?_ | exact Le.ic rfl | exact Le.bc rfl | exact Le.i rfl | exact Le.b rfl | exact Le.sl rfl | exact Le.mp rfl | exact Le.csl rfl | exact Le.cslsl rfl | exact Le.nils rfl (fun _ => ⟨trivial, trivial⟩) | refine Le.lst rfl (fun _ _ => rfl) (fun _ => ⟨trivial, trivial⟩) ?_ | refine Le.lst rfl (fun _ _ => rfl) (fun _ => ⟨fun _ => ⟨trivial, trivial⟩, trivial⟩) ?_ | exact Le.nils rfl (fun _ => ⟨fun _ => ⟨trivial, trivial⟩, trivial⟩) | exact Le.nils rfl (fun x => (cCm_ok x).1) | refine Le.lst rfl (fun _ _ => rfl) (fun x => (cCm_ok x).1) ?_ | refine Le.agg ?_ | refine Le.tup ?_ | refine Le.fn ?_ ?_ | refine Le.spt ?_ | exact Le.any _)))⟩⟩
  · have na := ne ha
    refine ⟨some (some s), ⟨ha⟩, ?_⟩
    cbv
    refine ⟨⟨rfl, na⟩, ?_⟩
    rcases hb : above x.h x.b with _ | t
    · refine ⟨some none, ⟨hb⟩, ?_⟩
      cbv
      exact ⟨⟨rfl, rfl⟩, ⟨Le.tup (by ((repeat' first | exact LeL.nil | exact Le.refl _ | refine LeL.cons ?_ ?_ | exact Le.ic rfl | exact Le.bc rfl | exact Le.i rfl | exact Le.b rfl | exact Le.sl rfl | exact Le.mp rfl | exact Le.csl rfl | exact Le.cslsl rfl | exact Le.nils rfl (fun _ => ⟨trivial, trivial⟩) | refine Le.lst rfl (fun _ _ => rfl) (fun _ => ⟨trivial, trivial⟩) ?_ | refine Le.lst rfl (fun _ _ => rfl) (fun _ => ⟨fun _ => ⟨trivial, trivial⟩, trivial⟩) ?_ | exact Le.nils rfl (fun _ => ⟨fun _ => ⟨trivial, trivial⟩, trivial⟩) | exact Le.nils rfl (fun x => (cCm_ok x).1) | refine Le.lst rfl (fun _ _ => rfl) (fun x => (cCm_ok x).1) ?_ | refine Le.agg ?_ | refine Le.tup ?_ | refine Le.fn ?_ ?_ | refine Le.spt ?_ | exact Le.any _)))⟩⟩
    · have nb := ne hb
      refine ⟨some (some t), ⟨hb⟩, ?_⟩
      cbv
      exact ⟨⟨rfl, nb⟩, ⟨Le.tup (by ((repeat' first | exact LeL.nil | exact Le.refl _ | refine LeL.cons ?_ ?_ | exact Le.ic rfl | exact Le.bc rfl | exact Le.i rfl | exact Le.b rfl | exact Le.sl rfl | exact Le.mp rfl | exact Le.csl rfl | exact Le.cslsl rfl | exact Le.nils rfl (fun _ => ⟨trivial, trivial⟩) | refine Le.lst rfl (fun _ _ => rfl) (fun _ => ⟨trivial, trivial⟩) ?_ | refine Le.lst rfl (fun _ _ => rfl) (fun _ => ⟨fun _ => ⟨trivial, trivial⟩, trivial⟩) ?_ | exact Le.nils rfl (fun _ => ⟨fun _ => ⟨trivial, trivial⟩, trivial⟩) | exact Le.nils rfl (fun x => (cCm_ok x).1) | refine Le.lst rfl (fun _ _ => rfl) (fun x => (cCm_ok x).1) ?_ | refine Le.agg ?_ | refine Le.tup ?_ | refine Le.fn ?_ ?_ | refine Le.spt ?_ | exact Le.any _)))⟩⟩

noncomputable def sp17 : List (Nat × Vc.Spec) := (51, BothS) :: sp16
theorem sp17_ok : All (fun f S => SpecOk (PP ()) f S) sp17 := ⟨Both_ok, sp16_ok⟩
noncomputable def inl3 : List (Nat × Func) := (47, Try.f47) :: (64, Try.f64) :: (67, Try.f67) :: (50, Try.f50) :: (52, Try.f52) :: (57, Try.f57) :: (48, Try.f48) :: (53, Try.f53) :: (62, Try.f62) :: inl2
theorem inl3_ok : All (fun f fn => FnOk (PP ()) f fn ∧ fnCodeOk fn = true) inl3 := ⟨⟨fnOk_of Try.func47 (by kernel_rfl), by kernel_rfl⟩, ⟨fnOk_of Try.func64 (by kernel_rfl), by kernel_rfl⟩, ⟨fnOk_of Try.func67 (by kernel_rfl), by kernel_rfl⟩, ⟨fnOk_of Try.func50 (by kernel_rfl), by kernel_rfl⟩, ⟨fnOk_of Try.func52 (by kernel_rfl), by kernel_rfl⟩, ⟨fnOk_of Try.func57 (by kernel_rfl), by kernel_rfl⟩, ⟨fnOk_of Try.func48 (by kernel_rfl), by kernel_rfl⟩, ⟨fnOk_of Try.func53 (by kernel_rfl), by kernel_rfl⟩, ⟨fnOk_of Try.func62 (by kernel_rfl), by kernel_rfl⟩, inl2_ok⟩
noncomputable def ctx17 : Ctx := { tt := tt, el := el, sp := fun f => tab sp17 f, inl := fun f => tab inl3 f, lp := fun f => Nat.beq f 67 }
theorem ctx17_ok : ctx17.Ok (PP ()) := ⟨tt_ok, el_ok ctx17 rfl, tab_all sp17_ok, fun f fn h => (tab_all inl3_ok f fn h).1, mixed⟩
theorem ctx17_inl : InlOk ctx17 := fun f fn h => (tab_all inl3_ok f fn h).2

theorem setM_tru {s : Int → Bool} {j : Int} (h : (setM s j).isSome = true) : s j = true := by rw [setM_isSome] at h; exact h
theorem setM_fls {s : Int → Bool} {j : Int} (h : (setM s j).isSome = false) : s j = false := by rw [setM_isSome] at h; exact h
theorem ids_take {h : List Cm} {i : Nat} {c : Cm} (hc : h[i]? = some c) : (ids h).take (i + 1) = (ids h).take i ++ [c.id] := by
  rw [List.take_add_one]
  simp [ids, hc]
theorem col_yes {s : Int → Bool} {h : List Cm} {i : Nat} {c : Cm} (hc : h[i]? = some c) (hs : s c.id = true) : ((ids h).take (i + 1)).filter s = ((ids h).take i).filter s ++ [c.id] := by
  rw [ids_take hc, List.filter_append]
  simp [hs]
theorem col_no {s : Int → Bool} {h : List Cm} {i : Nat} {c : Cm} (hc : h[i]? = some c) (hs : s c.id = false) : ((ids h).take (i + 1)).filter s = ((ids h).take i).filter s := by
  rw [ids_take hc, List.filter_append]
  simp [hs]
theorem col_len (s : Int → Bool) (h : List Cm) (i : Nat) : (((ids h).take i).filter s).length ≤ h.length := by
  have h1 := List.length_filter_le s ((ids h).take i)
  have h2 : ((ids h).take i).length ≤ h.length := by simp [ids]; omega
  omega
structure HI1 where
  h : List Cm
  i : Int
def ancS (h : List Cm) (i : Int) : List Int × Int := match above h i with
  | none => ([], 4)
  | some s => ((ids h).filter s, 0)
def AncS : Vc.Spec where
  α := HI1
  args x := [.sl 4 cCm (fun _ => x.h), .i .u64 (fun _ => x.i)]
  pre x := Hs x.h
  res x := .tup [.sl 1 cU64 (fun _ => (ancS x.h x.i).1), .i .i64 (fun _ => (ancS x.h x.i).2)]
theorem Anc_ok : SpecOk (PP ()) 33 AncS := by
  refine spec_of_vc (lv := 5) ctx17_ok ctx17_inl (fnOk_of Try.func33 (by kernel_rfl)) (by kernel_rfl) (fun a => by simp [AncS, LFL, LF, cU64, cCm, Cm.cells, cSet, cTrue]) (fun a => by simp [AncS, LFL, LF, cU64, cCm, Cm.cells, cSet, cTrue]) ?_
  intro x hx
  have H : Hs x.h := hx
  obtain ⟨q, hq⟩ : ∃ q, q = ancS x.h x.i := ⟨_, rfl⟩
  have hr : AncS.res x = .tup [.sl 1 cU64 (fun _ => q.1), .i .i64 (fun _ => q.2)] := by rw [hq]; rfl
  rw [hr]
  unfold ancS at hq
  refine ⟨?_⟩
  cbv
  refine ⟨x.h, ⟨by ((repeat' first | exact LeL.nil | exact Le.refl _ | refine LeL.cons ?_ ?_ | exact Le.ic rfl | exact Le.bc rfl | exact Le.i rfl | exact Le.b rfl | exact Le.sl rfl | exact Le.mp rfl | exact Le.csl rfl | exact Le.cslsl rfl | exact Le.nils rfl (fun _ => ⟨trivial, trivial⟩) | refine Le.lst rfl (fun _ _ => rfl) (fun _ => ⟨trivial, trivial⟩) ?_ | refine Le.lst rfl (fun _ _ => rfl) (fun _ => ⟨fun _ => ⟨trivial, trivial⟩, trivial⟩) ?_ | exact Le.nils rfl (fun _ => ⟨fun _ => ⟨trivial, trivial⟩, trivial⟩) | exact Le.nils rfl (fun x => (cCm_ok x).1) | refine Le.lst rfl (fun _ _ => rfl) (fun x => (cCm_ok x).1) ?_ | refine Le.agg ?_ | refine Le.tup ?_ | refine Le.fn ?_ ?_ | refine Le.spt ?_ | exact Le.any _)), H⟩, ?_⟩
  cbv
  rcases ha : above x.h x.i with _ | s
  · rw [ha] at hq
    refine ⟨some none, ⟨ha⟩, ?_⟩
    cbv
    exact ⟨.tup (.cons (.nils (by rw [hq]) fun y => (cU64_ok y).1) (.cons (.ic (by rw [hq])) .nil))⟩
  · rw [ha] at hq
    refine ⟨some (some s), ⟨ha⟩, ?_⟩
    cbv
    refine Sat.adoptc 1 0 27 1 eltU64 cU64_ok rfl rfl ?_
    refine Sat.loopD ctx17_ok ctx17_inl (lv := 4) (by kernel_rfl) 6 8 [(.c 1 0, 5)] (fun i : Nat => [(8, .i .i64 (fun _ => (i : Int)))]) (fun i => [(5, .dyn 27 1 cU64 (fun _ => ((ids x.h).take i).filter s))])
      (fun i => i ≤ x.h.length) (fun i => x.h.length - i) 0 (by ((try cbv) <;> (repeat' (first | with_reducible exact trivial | with_reducible refine And.intro ?_ ?_)) <;> (try first | exact SlotLe.refl _ | exact SlotLe.dyn rfl | exact SlotLe.map rfl | exact SlotLe.iter rfl rfl (.inl rfl) | exact SlotLe.iter rfl rfl (.inr rfl) | refine SlotLe.fix ?_ | refine SlotLe.dyn ?_) <;> ((repeat' first | exact LeL.nil | exact Le.refl _ | refine LeL.cons ?_ ?_ | exact Le.ic rfl | exact Le.bc rfl | exact Le.i rfl | exact Le.b rfl | exact Le.sl rfl | exact Le.mp rfl | exact Le.csl rfl | exact Le.cslsl rfl | exact Le.nils rfl (fun _ => ⟨trivial, trivial⟩) | refine Le.lst rfl (fun _ _ => rfl) (fun _ => ⟨trivial, trivial⟩) ?_ | refine Le.lst rfl (fun _ _ => rfl) (fun _ => ⟨fun _ => ⟨trivial, trivial⟩, trivial⟩) ?_ | exact Le.nils rfl (fun _ => ⟨fun _ => ⟨trivial, trivial⟩, trivial⟩) | exact Le.nils rfl (fun x => (cCm_ok x).1) | refine Le.lst rfl (fun _ _ => rfl) (fun x => (cCm_ok x).1) ?_ | refine Le.agg ?_ | refine Le.tup ?_ | refine Le.fn ?_ ?_ | refine Le.spt ?_ | exact Le.any _)))) (by ((try cbv) <;> (repeat' (first | with_reducible exact trivial | with_reducible refine And.intro ?_ ?_)) <;> (try first | exact SlotLe.refl _ | exact SlotLe.dyn rfl | exact SlotLe.map rfl | exact SlotLe.iter rfl rfl (.inl rfl) | exact SlotLe.iter rfl rfl (.inr rfl) | refine SlotLe.fix ?_ | refine SlotLe.dyn ?_) <;> ((repeat' first | exact LeL.nil | exact Le.refl _ | refine LeL.cons ?_ ?_ | exact Le.ic rfl | exact Le.bc rfl | exact Le.i rfl | exact Le.b rfl | exact Le.sl rfl | exact Le.mp rfl | exact Le.csl rfl | exact Le.cslsl rfl | exact Le.nils rfl (fun _ => ⟨trivial, trivial⟩) | refine Le.lst rfl (fun _ _ => rfl) (fun _ => ⟨trivial, trivial⟩) ?_ | refine Le.lst rfl (fun _ _ => rfl) (fun _ => ⟨fun _ => ⟨trivial, trivial⟩, trivial⟩) ?_ | exact Le.nils rfl (fun _ => ⟨fun _ => ⟨trivial, trivial⟩, trivial⟩) | exact Le.nils rfl (fun x => (cCm_ok x).1) | refine Le.lst rfl (fun _ _ => rfl) (fun x => (cCm_ok x).1) ?_ | refine Le.agg ?_ | refine Le.tup ?_ | refine Le.fn ?_ ?_ | refine Le.spt ?_ | exact Le.any _)))) (by omega) ?_
    intro i hi
    have hn := H.n
    cbv
    refine ⟨fun h2 => ?_, fun h2 => ?_⟩
    · have h2 := h2.out
      have hlt : i < x.h.length := by simp [ltB] at h2; ((try simp only [Go.Vc.natc] at *); omega)
      obtain ⟨va, hva⟩ : ∃ v, x.h[i]? = some v := ⟨_, List.getElem?_eq_getElem hlt⟩
      cbv
      refine ⟨va, ⟨Int.natCast_nonneg i, hva⟩, ?_⟩
      cbv
      have hlen := col_len s x.h i
      refine ⟨none, ⟨rfl, fun _ => rfl⟩, ?_⟩
      cbv
      refine ⟨fun h => ?_, fun h => ?_⟩
      · have e := col_yes hva (s := s) (setM_tru h.out)
        cbv
        refine ⟨[va.id], ⟨by ((repeat' first | exact LeL.nil | exact Le.refl _ | refine LeL.cons ?_ ?_ | exact Le.ic rfl | exact Le.bc rfl | exact Le.i rfl | exact Le.b rfl | exact Le.sl rfl | exact Le.mp rfl | exact Le.csl rfl | exact Le.cslsl rfl | exact Le.nils rfl (fun _ => ⟨trivial, trivial⟩) | refine Le.lst rfl (fun _ _ => rfl) (fun _ => ⟨trivial, trivial⟩) ?_ | refine Le.lst rfl (fun _ _ => rfl) (fun _ => ⟨fun _ => ⟨trivial, trivial⟩, trivial⟩) ?_ | exact Le.nils rfl (fun _ => ⟨fun _ => ⟨trivial, trivial⟩, trivial⟩) | exact Le.nils rfl (fun x => (cCm_ok x).1) | refine Le.lst rfl (fun _ _ => rfl) (fun x => (cCm_ok x).1) ?_ | refine Le.agg ?_ | refine Le.tup ?_ | refine Le.fn ?_ ?_ | refine Le.spt ?_ | exact Le.any _)), by show ((((ids x.h).take i).filter s).length + 1) * 8 ≤ _; omega, by show (((ids x.h).take i).filter s).length + 1 ≤ 9223372036854775807; omega⟩, ?_⟩
        cbv
        exact ⟨i + 1, by ((try cbv) <;> (repeat' (first | with_reducible exact trivial | with_reducible refine And.intro ?_ ?_)) <;> (try first | exact SlotLe.refl _ | exact SlotLe.dyn rfl | exact SlotLe.map rfl | exact SlotLe.iter rfl rfl (.inl rfl) | exact SlotLe.iter rfl rfl (.inr rfl) | refine SlotLe.fix ?_ | refine SlotLe.dyn ?_) <;> ((repeat' first | exact LeL.nil | exact Le.refl _ | refine LeL.cons ?_ ?_ | exact Le.ic rfl | exact Le.bc rfl | exact Le.i rfl | exact Le.b rfl | exact Le.sl rfl | exact Le.mp rfl | exact Le.csl rfl | exact Le.cslsl rfl | exact Le.nils rfl (fun _ => ⟨trivial, trivial⟩) | refine Le.lst rfl (fun _ _ => rfl) (fun _ => ⟨trivial, trivial⟩) ?_ | refine Le.lst rfl (fun _ _ => rfl) (fun _ => ⟨fun _ => ⟨trivial, trivial⟩, trivial⟩) ?_ | exact Le.nils rfl (fun _ => ⟨fun _ => ⟨trivial, trivial⟩, trivial⟩) | exact Le.nils rfl (fun x => (cCm_ok x).1) | refine Le.lst rfl (fun _ _ => rfl) (fun x => (cCm_ok x).1) ?_ | refine Le.agg ?_ | refine Le.tup ?_ | refine Le.fn ?_ ?_ | refine Le.spt ?_ | exact Le.any _))) <;> (refine .i ?_; show IntKind.i64.wrap ((i : Int) + 1) = ((i + 1 : Nat) : Int); rw [w64 (by omega) (by omega)]; rfl), by ((try cbv) <;> (repeat' (first | with_reducible exact trivial | with_reducible refine And.intro ?_ ?_)) <;> (try first | exact SlotLe.refl _ | exact SlotLe.dyn rfl | exact SlotLe.map rfl | exact SlotLe.iter rfl rfl (.inl rfl) | exact SlotLe.iter rfl rfl (.inr rfl) | refine SlotLe.fix ?_ | refine SlotLe.dyn ?_) <;> ((repeat' first | exact LeL.nil | exact Le.refl _ | refine LeL.cons ?_ ?_ | exact Le.ic rfl | exact Le.bc rfl | exact Le.i rfl | exact Le.b rfl | exact Le.sl rfl | exact Le.mp rfl | exact Le.csl rfl | exact Le.cslsl rfl | exact Le.nils rfl (fun _ => ⟨trivial, trivial⟩) | refine Le.lst rfl (fun _ _ => rfl) (fun _ => ⟨trivial, trivial⟩) ?_ | refine Le.lst rfl (fun _ _ => rfl) (fun _ => ⟨fun _ => ⟨trivial, trivial⟩, trivial⟩) ?_ | exact Le.nils rfl (fun _ => ⟨fun _ => ⟨trivial, trivial⟩, trivial⟩) | exact Le.nils rfl (fun x => (cCm_ok x).1) | refine Le.lst rfl (fun _ _ => rfl) (fun x => (cCm_ok x).1) ?_ | refine Le.agg ?_ | refine Le.tup ?_ | refine Le.fn ?_ ?_ | refine Le.spt ?_ | exact Le.any _))) <;> exact e.symm, ⟨by show i + 1 ≤ x.h.length ∧ x.h.length - (i + 1) < x.h.length - i; omega⟩⟩
      · have e := col_no hva (s := s) (setM_fls h.out)
        cbv
        exact ⟨i + 1, by ((try cbv) <;> (repeat' (first | with_reducible exact trivial | with_reducible refine And.intro ?_ ?_)) <;> (try first | exact SlotLe.refl _ | exact SlotLe.dyn rfl | exact SlotLe.map rfl | exact SlotLe.iter rfl rfl (.inl rfl) | exact SlotLe.iter rfl rfl (.inr rfl) | refine SlotLe.fix ?_ | refine SlotLe.dyn ?_) <;> ((repeat' first | exact LeL.nil | exact Le.refl _ | refine LeL.cons ?_ ?_ | exact Le.ic rfl | exact Le.bc rfl | exact Le.i rfl | exact Le.b rfl | exact Le.sl rfl | exact Le.mp rfl | exact Le.csl rfl | exact Le.cslsl rfl | exact Le.nils rfl (fun _ => ⟨trivial, trivial⟩) | refine Le.lst rfl (fun _ _ => rfl) (fun _ => ⟨trivial, trivial⟩) ?_ | refine Le.lst rfl (fun _ _ => rfl) (fun _ => ⟨fun _ => ⟨trivial, trivial⟩, trivial⟩) ?_ | exact Le.nils rfl (fun _ => ⟨fun _ => ⟨trivial, trivial⟩, trivial⟩) | exact Le.nils rfl (fun x => (cCm_ok x).1) | refine Le.lst rfl (fun _ _ => rfl) (fun x => (cCm_ok x).1) ?_ | refine Le.agg ?_ | refine Le.tup ?_ | refine Le.fn ?_ ?_ | refine Le.spt ?_ | exact Le.any _))) <;> (refine .i ?_; show IntKind.i64.wrap ((i : Int) + 1) = ((i + 1 : Nat) : Int); rw [w64 (by omega) (by omega)]; rfl), by ((try cbv) <;> (repeat' (first | with_reducible exact trivial | with_reducible refine And.intro ?_ ?_)) <;> (try first | exact SlotLe.refl _ | exact SlotLe.dyn rfl | exact SlotLe.map rfl | exact SlotLe.iter rfl rfl (.inl rfl) | exact SlotLe.iter rfl rfl (.inr rfl) | refine SlotLe.fix ?_ | refine SlotLe.dyn ?_) <;> ((repeat' first | exact LeL.nil | exact Le.refl _ | refine LeL.cons ?_ ?_ | exact Le.ic rfl | exact Le.bc rfl | exact Le.i rfl | exact Le.b rfl | exact Le.sl rfl | exact Le.mp rfl | exact Le.csl rfl | exact Le.cslsl rfl | exact Le.nils rfl (fun _ => ⟨trivial, trivial⟩) | refine Le.lst rfl (fun _ _ => rfl) (fun _ => ⟨trivial, trivial⟩) ?_ | refine Le.lst rfl (fun _ _ => rfl) (fun _ => ⟨fun _ => ⟨trivial, trivial⟩, trivial⟩) ?_ | exact Le.nils rfl (fun _ => ⟨fun _ => ⟨trivial, trivial⟩, trivial⟩) | exact Le.nils rfl (fun x => (cCm_ok x).1) | refine Le.lst rfl (fun _ _ => rfl) (fun x => (cCm_ok x).1) ?_ | refine Le.agg ?_ | refine Le.tup ?_ | refine Le.fn ?_ ?_ | refine Le.spt ?_ | exact Le.any _))) <;> exact e.symm, ⟨by show i + 1 ≤ x.h.length ∧ x.h.length - (i + 1) < x.h.length - i; omega⟩⟩
    · have h2 := h2.out
      have hlt : ¬ i < x.h.length := by simp [ltB] at h2; ((try simp only [Go.Vc.natc] at *); omega)
      have e : (ids x.h).take i = ids x.h := List.take_of_length_le (by simp [ids]; omega)
      cbv
      exact ⟨.tup (.cons (.sl (by rw [hq, e])) (.cons (.ic (by rw [hq])) .nil))⟩

end Go.Proofs.Hist
