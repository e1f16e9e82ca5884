/-
  The histories' functions: unions
-/
import Derived.Test.YtpbechemimnikaaHisX
set_option linter.unusedVariables false
set_option linter.unusedSimpArgs false
set_option maxRecDepth 10000
set_option maxHeartbeats 16000000
namespace Go.Proofs.Hist
open Go Go.Vc

variable {h g : List Cm}
/-- A commit of another history is at odds with this one. -/
def oddB (h : List Cm) (d : Cm) : Bool := match h[(idx h d.id).toNat]? with
  | none => false
  | some c => has h d.id && !c.same d
def uniM (h g : List Cm) : Ad := if g.any (oddB h) then ⟨[], 0, 190⟩ else if 500 < (unionM h g).length then ⟨[], 0, 2⟩ else ⟨unionM h g, 0, 0⟩
theorem oddB_at {d o : Cm} (ho : h[(idx h d.id).toNat]? = some o) : oddB h d = (has h d.id && !o.same d) := by unfold oddB; rw [ho]
theorem oddB_no {d : Cm} (e : has h d.id = false) : oddB h d = false := by
  unfold oddB
  split
  · rfl
  · rw [e]; rfl
theorem oddB_next {i : Nat} {d : Cm} (hd : g[i]? = some d) : (g.take (i + 1)).any (oddB h) = ((g.take i).any (oddB h) || oddB h d) := by
  rw [List.take_add_one, hd, List.any_append]
  simp
theorem odd_all {i : Nat} {d : Cm} (hd : g[i]? = some d) (e : oddB h d = true) : g.any (oddB h) = true := List.any_eq_true.2 ⟨d, List.mem_of_getElem? hd, e⟩
theorem union_yes {i : Nat} {d : Cm} (hd : g[i]? = some d) (e : has h d.id = false) : unionM h (g.take (i + 1)) = unionM h (g.take i) ++ [d] := by
  unfold unionM extra
  rw [List.take_add_one, hd, List.filter_append, ← List.append_assoc]
  simp [e]
theorem union_no {i : Nat} {d : Cm} (hd : g[i]? = some d) (e : has h d.id = true) : unionM h (g.take (i + 1)) = unionM h (g.take i) := by
  unfold unionM extra
  rw [List.take_add_one, hd, List.filter_append]
  simp [e]
theorem union_lt (i : Nat) : (unionM h (g.take i)).length ≤ h.length + g.length := by
  unfold unionM extra
  have h1 := List.length_filter_le (fun c : Cm => !has h c.id) (g.take i)
  rw [List.length_append]
  rw [List.length_take] at h1
  omega
structure HG where
  h : List Cm
  g : List Cm
structure HGok (x : HG) : Prop where
  h : Hs x.h
  g : Hs x.g
def UniS : Vc.Spec where
  α := HG
  args x := [.sl 4 cCm (fun _ => x.h), .sl 4 cCm (fun _ => x.g)]
  pre x := HGok x
  res x := .tup [.sl 4 cCm (fun _ => (uniM x.h x.g).h), .i .i64 (fun _ => (uniM x.h x.g).e)]
noncomputable def inl6 : List (Nat × Func) := (62, Try.f62) :: inl2
theorem inl6_ok : All (fun f fn => FnOk (PP ()) f fn ∧ fnCodeOk fn = true) inl6 := ⟨⟨fnOk_of Try.func62 (by kernel_rfl), by kernel_rfl⟩, inl2_ok⟩

noncomputable def ctx24 : Ctx := { tt := tt, el := el, sp := fun f => tab sp23 f, inl := fun f => tab inl6 f }
theorem ctx24_ok : ctx24.Ok (PP ()) := ⟨tt_ok, el_ok ctx24 rfl, tab_all sp23_ok, fun f fn h => (tab_all inl6_ok f fn h).1, mixed⟩
theorem ctx24_inl : InlOk ctx24 := fun f fn h => (tab_all inl6_ok f fn h).2
theorem Uni_ok : SpecOk (PP ()) 45 UniS := by
  refine spec_of_vc (lv := 3) ctx24_ok ctx24_inl (fnOk_of Try.func45 (by kernel_rfl)) (by kernel_rfl) (fun a => by simp [UniS, LFL, LF, cU64, cCm, Cm.cells]) (fun a => by simp [UniS, LFL, LF, cU64, cCm, Cm.cells]) ?_
  intro x hx
  have Hh : Hs x.h := hx.h
  have Hg : Hs x.g := hx.g
  have hhn := Hh.n
  have hgn := Hg.n
  have hle : x.h.length < 2305843009213693952 := by omega
  obtain ⟨q, hq⟩ : ∃ q, q = uniM x.h x.g := ⟨_, rfl⟩
  have hr : UniS.res x = .tup [.sl 4 cCm (fun _ => q.h), .i .i64 (fun _ => q.e)] := by rw [hq]; rfl
  rw [hr]
  have u0 : unionM x.h (x.g.take 0) = x.h := by simp [unionM, extra]
  refine ⟨?_⟩
  cbv
  refine ⟨fun h5 => ?_, ?_⟩
  · have h5 : x.h = [] := h5.out
    have u1 : ([] : List Cm) = unionM x.h (x.g.take 0) := by rw [u0, h5]
    cbv
    refine Sat.adopt 6 43 4 eltCm cCm_ok rfl ?_
    refine Sat.loopD ctx24_ok ctx24_inl (lv := 3) (by kernel_rfl) 1 14 [(.t 6, 0)] (fun i : Nat => [(8, .any), (9, .any), (11, .any), (14, .i .i64 (fun _ => (i : Int)))]) (fun i => [(0, .dyn 43 4 cCm (fun _ => unionM x.h (x.g.take i)))])
      (fun i => i ≤ x.g.length ∧ (x.g.take i).any (oddB x.h) = false) (fun i => x.g.length - i) 0 (by ((try cbv) <;> (repeat' (first | with_reducible exact trivial | with_reducible refine And.intro ?_ ?_)) <;> (try first | exact SlotLe.refl _ | exact SlotLe.dyn rfl | exact SlotLe.map rfl | exact SlotLe.iter rfl rfl (.inl rfl) | exact SlotLe.iter rfl rfl (.inr rfl) | refine SlotLe.fix ?_ | refine SlotLe.dyn ?_) <;> ((repeat' first | exact LeL.nil | exact Le.refl _ | refine LeL.cons ?_ ?_ | exact Le.ic rfl | exact Le.bc rfl | exact Le.i rfl | exact Le.b rfl | exact Le.sl rfl | exact Le.mp rfl | exact Le.csl rfl | exact Le.cslsl rfl | exact Le.nils rfl (fun _ => ⟨trivial, trivial⟩) | refine Le.lst rfl (fun _ _ => rfl) (fun _ => ⟨trivial, trivial⟩) ?_ | refine Le.lst rfl (fun _ _ => rfl) (fun _ => ⟨fun _ => ⟨trivial, trivial⟩, trivial⟩) ?_ | exact Le.nils rfl (fun _ => ⟨fun _ => ⟨trivial, trivial⟩, trivial⟩) | exact Le.nils rfl (fun x => (cCm_ok x).1) | refine Le.lst rfl (fun _ _ => rfl) (fun x => (cCm_ok x).1) ?_ | refine Le.agg ?_ | refine Le.tup ?_ | refine Le.fn ?_ ?_ | refine Le.spt ?_ | exact Le.any _)))) (by ((try cbv) <;> (repeat' (first | with_reducible exact trivial | with_reducible refine And.intro ?_ ?_)) <;> (try first | exact SlotLe.refl _ | exact SlotLe.dyn rfl | exact SlotLe.map rfl | exact SlotLe.iter rfl rfl (.inl rfl) | exact SlotLe.iter rfl rfl (.inr rfl) | refine SlotLe.fix ?_ | refine SlotLe.dyn ?_) <;> ((repeat' first | exact LeL.nil | exact Le.refl _ | refine LeL.cons ?_ ?_ | exact Le.ic rfl | exact Le.bc rfl | exact Le.i rfl | exact Le.b rfl | exact Le.sl rfl | exact Le.mp rfl | exact Le.csl rfl | exact Le.cslsl rfl | exact Le.nils rfl (fun _ => ⟨trivial, trivial⟩) | refine Le.lst rfl (fun _ _ => rfl) (fun _ => ⟨trivial, trivial⟩) ?_ | refine Le.lst rfl (fun _ _ => rfl) (fun _ => ⟨fun _ => ⟨trivial, trivial⟩, trivial⟩) ?_ | exact Le.nils rfl (fun _ => ⟨fun _ => ⟨trivial, trivial⟩, trivial⟩) | exact Le.nils rfl (fun x => (cCm_ok x).1) | refine Le.lst rfl (fun _ _ => rfl) (fun x => (cCm_ok x).1) ?_ | refine Le.agg ?_ | refine Le.tup ?_ | refine Le.fn ?_ ?_ | refine Le.spt ?_ | exact Le.any _))) <;> exact u1) ⟨by omega, by simp⟩ ?_
    rintro i ⟨hi, ht⟩
    have hul := union_lt (h := x.h) (g := x.g) i
    cbv
    refine ⟨fun h2 => ?_, fun h2 => ?_⟩
    · have h2 := h2.out
      have hlt : i < x.g.length := by simp [ltB] at h2; ((try simp only [Go.Vc.natc] at *); omega)
      obtain ⟨va, hva⟩ : ∃ v, x.g[i]? = some v := ⟨_, List.getElem?_eq_getElem hlt⟩
      have on := oddB_next (h := x.h) hva
      cbv
      refine ⟨va, ⟨Int.natCast_nonneg i, hva⟩, ?_⟩
      cbv
      refine ⟨⟨x.h, va.id⟩, ⟨by ((repeat' first | exact LeL.nil | exact Le.refl _ | refine LeL.cons ?_ ?_ | exact Le.ic rfl | exact Le.bc rfl | exact Le.i rfl | exact Le.b rfl | exact Le.sl rfl | exact Le.mp rfl | exact Le.csl rfl | exact Le.cslsl rfl | exact Le.nils rfl (fun _ => ⟨trivial, trivial⟩) | refine Le.lst rfl (fun _ _ => rfl) (fun _ => ⟨trivial, trivial⟩) ?_ | refine Le.lst rfl (fun _ _ => rfl) (fun _ => ⟨fun _ => ⟨trivial, trivial⟩, trivial⟩) ?_ | exact Le.nils rfl (fun _ => ⟨fun _ => ⟨trivial, trivial⟩, trivial⟩) | exact Le.nils rfl (fun x => (cCm_ok x).1) | refine Le.lst rfl (fun _ _ => rfl) (fun x => (cCm_ok x).1) ?_ | refine Le.agg ?_ | refine Le.tup ?_ | refine Le.fn ?_ ?_ | refine Le.spt ?_ | exact Le.any _)), hle⟩, ?_⟩
      cbv
      refine ⟨fun h3 => ?_, fun h3 => ?_⟩
      · have f3 : has x.h va.id = false := idx_lt h3.out
        have nx := (union_yes hva f3).symm
        have nj : (x.g.take (i + 1)).any (oddB x.h) = false := by rw [on, ht, oddB_no f3]; rfl
        have q1 : ((unionM x.h (x.g.take i)).length + 1) * 48 ≤ 140737488355328 := by omega
        have q2 : (unionM x.h (x.g.take i)).length + 1 ≤ 9223372036854775807 := by omega
        cbv
        refine ⟨[va], ⟨by ((repeat' first | exact LeL.nil | exact Le.refl _ | refine LeL.cons ?_ ?_ | exact Le.ic rfl | exact Le.bc rfl | exact Le.i rfl | exact Le.b rfl | exact Le.sl rfl | exact Le.mp rfl | exact Le.csl rfl | exact Le.cslsl rfl | exact Le.nils rfl (fun _ => ⟨trivial, trivial⟩) | refine Le.lst rfl (fun _ _ => rfl) (fun _ => ⟨trivial, trivial⟩) ?_ | refine Le.lst rfl (fun _ _ => rfl) (fun _ => ⟨fun _ => ⟨trivial, trivial⟩, trivial⟩) ?_ | exact Le.nils rfl (fun _ => ⟨fun _ => ⟨trivial, trivial⟩, trivial⟩) | exact Le.nils rfl (fun x => (cCm_ok x).1) | refine Le.lst rfl (fun _ _ => rfl) (fun x => (cCm_ok x).1) ?_ | refine Le.agg ?_ | refine Le.tup ?_ | refine Le.fn ?_ ?_ | refine Le.spt ?_ | exact Le.any _)), q1, q2⟩, ?_⟩
        cbv
        exact ⟨i + 1, by ((try cbv) <;> (repeat' (first | with_reducible exact trivial | with_reducible refine And.intro ?_ ?_)) <;> (try first | exact SlotLe.refl _ | exact SlotLe.dyn rfl | exact SlotLe.map rfl | exact SlotLe.iter rfl rfl (.inl rfl) | exact SlotLe.iter rfl rfl (.inr rfl) | refine SlotLe.fix ?_ | refine SlotLe.dyn ?_) <;> ((repeat' first | exact LeL.nil | exact Le.refl _ | refine LeL.cons ?_ ?_ | exact Le.ic rfl | exact Le.bc rfl | exact Le.i rfl | exact Le.b rfl | exact Le.sl rfl | exact Le.mp rfl | exact Le.csl rfl | exact Le.cslsl rfl | exact Le.nils rfl (fun _ => ⟨trivial, trivial⟩) | refine Le.lst rfl (fun _ _ => rfl) (fun _ => ⟨trivial, trivial⟩) ?_ | refine Le.lst rfl (fun _ _ => rfl) (fun _ => ⟨fun _ => ⟨trivial, trivial⟩, trivial⟩) ?_ | exact Le.nils rfl (fun _ => ⟨fun _ => ⟨trivial, trivial⟩, trivial⟩) | exact Le.nils rfl (fun x => (cCm_ok x).1) | refine Le.lst rfl (fun _ _ => rfl) (fun x => (cCm_ok x).1) ?_ | refine Le.agg ?_ | refine Le.tup ?_ | refine Le.fn ?_ ?_ | refine Le.spt ?_ | exact Le.any _))) <;> (refine .i ?_; show IntKind.i64.wrap ((i : Int) + 1) = ((i + 1 : Nat) : Int); rw [w64 (by omega) (by omega)]; rfl), by ((try cbv) <;> (repeat' (first | with_reducible exact trivial | with_reducible refine And.intro ?_ ?_)) <;> (try first | exact SlotLe.refl _ | exact SlotLe.dyn rfl | exact SlotLe.map rfl | exact SlotLe.iter rfl rfl (.inl rfl) | exact SlotLe.iter rfl rfl (.inr rfl) | refine SlotLe.fix ?_ | refine SlotLe.dyn ?_) <;> ((repeat' first | exact LeL.nil | exact Le.refl _ | refine LeL.cons ?_ ?_ | exact Le.ic rfl | exact Le.bc rfl | exact Le.i rfl | exact Le.b rfl | exact Le.sl rfl | exact Le.mp rfl | exact Le.csl rfl | exact Le.cslsl rfl | exact Le.nils rfl (fun _ => ⟨trivial, trivial⟩) | refine Le.lst rfl (fun _ _ => rfl) (fun _ => ⟨trivial, trivial⟩) ?_ | refine Le.lst rfl (fun _ _ => rfl) (fun _ => ⟨fun _ => ⟨trivial, trivial⟩, trivial⟩) ?_ | exact Le.nils rfl (fun _ => ⟨fun _ => ⟨trivial, trivial⟩, trivial⟩) | exact Le.nils rfl (fun x => (cCm_ok x).1) | refine Le.lst rfl (fun _ _ => rfl) (fun x => (cCm_ok x).1) ?_ | refine Le.agg ?_ | refine Le.tup ?_ | refine Le.fn ?_ ?_ | refine Le.spt ?_ | exact Le.any _))) <;> exact nx, ⟨⟨by show i + 1 ≤ x.g.length; omega, nj⟩, by show x.g.length - (i + 1) < x.g.length - i; omega⟩⟩

      · have f3 : has x.h va.id = true := idx_lt h3.out
        obtain ⟨o, ho, hoi⟩ := idx_get f3
        have hix := (has_lt f3).1
        have hop := Hh.get ho
        have oa := oddB_at ho
        cbv
        refine ⟨o, ⟨hix, ho⟩, ?_⟩
        cbv
        refine ⟨⟨o, va⟩, ⟨by ((repeat' first | exact LeL.nil | exact Le.refl _ | refine LeL.cons ?_ ?_ | exact Le.ic rfl | exact Le.bc rfl | exact Le.i rfl | exact Le.b rfl | exact Le.sl rfl | exact Le.mp rfl | exact Le.csl rfl | exact Le.cslsl rfl | exact Le.nils rfl (fun _ => ⟨trivial, trivial⟩) | refine Le.lst rfl (fun _ _ => rfl) (fun _ => ⟨trivial, trivial⟩) ?_ | refine Le.lst rfl (fun _ _ => rfl) (fun _ => ⟨fun _ => ⟨trivial, trivial⟩, trivial⟩) ?_ | exact Le.nils rfl (fun _ => ⟨fun _ => ⟨trivial, trivial⟩, trivial⟩) | exact Le.nils rfl (fun x => (cCm_ok x).1) | refine Le.lst rfl (fun _ _ => rfl) (fun x => (cCm_ok x).1) ?_ | refine Le.agg ?_ | refine Le.tup ?_ | refine Le.fn ?_ ?_ | refine Le.spt ?_ | exact Le.any _)), by show o.par.length < _; omega⟩, ?_⟩
        cbv
        refine ⟨fun h4 => ?_, fun h4 => ?_⟩
        · have h4 : (!o.same va) = true := h4.out
          have hod := odd_all (h := x.h) hva (by rw [oa, f3, h4]; rfl)
          have hq : q = ⟨[], 0, 190⟩ := by rw [hq]; unfold uniM; rw [if_pos hod]
          cbv
          exact ⟨.tup (.cons (.nils (by rw [hq]) fun y => (cCm_ok y).1) (.cons (.ic (by rw [hq])) .nil))⟩
        · have h4 : (!o.same va) = false := h4.out
          have nx := (union_no hva f3).symm
          have nj : (x.g.take (i + 1)).any (oddB x.h) = false := by rw [on, ht, oa, h4]; simp
          cbv
          exact ⟨i + 1, by ((try cbv) <;> (repeat' (first | with_reducible exact trivial | with_reducible refine And.intro ?_ ?_)) <;> (try first | exact SlotLe.refl _ | exact SlotLe.dyn rfl | exact SlotLe.map rfl | exact SlotLe.iter rfl rfl (.inl rfl) | exact SlotLe.iter rfl rfl (.inr rfl) | refine SlotLe.fix ?_ | refine SlotLe.dyn ?_) <;> ((repeat' first | exact LeL.nil | exact Le.refl _ | refine LeL.cons ?_ ?_ | exact Le.ic rfl | exact Le.bc rfl | exact Le.i rfl | exact Le.b rfl | exact Le.sl rfl | exact Le.mp rfl | exact Le.csl rfl | exact Le.cslsl rfl | exact Le.nils rfl (fun _ => ⟨trivial, trivial⟩) | refine Le.lst rfl (fun _ _ => rfl) (fun _ => ⟨trivial, trivial⟩) ?_ | refine Le.lst rfl (fun _ _ => rfl) (fun _ => ⟨fun _ => ⟨trivial, trivial⟩, trivial⟩) ?_ | exact Le.nils rfl (fun _ => ⟨fun _ => ⟨trivial, trivial⟩, trivial⟩) | exact Le.nils rfl (fun x => (cCm_ok x).1) | refine Le.lst rfl (fun _ _ => rfl) (fun x => (cCm_ok x).1) ?_ | refine Le.agg ?_ | refine Le.tup ?_ | refine Le.fn ?_ ?_ | refine Le.spt ?_ | exact Le.any _))) <;> (refine .i ?_; show IntKind.i64.wrap ((i : Int) + 1) = ((i + 1 : Nat) : Int); rw [w64 (by omega) (by omega)]; rfl), by ((try cbv) <;> (repeat' (first | with_reducible exact trivial | with_reducible refine And.intro ?_ ?_)) <;> (try first | exact SlotLe.refl _ | exact SlotLe.dyn rfl | exact SlotLe.map rfl | exact SlotLe.iter rfl rfl (.inl rfl) | exact SlotLe.iter rfl rfl (.inr rfl) | refine SlotLe.fix ?_ | refine SlotLe.dyn ?_) <;> ((repeat' first | exact LeL.nil | exact Le.refl _ | refine LeL.cons ?_ ?_ | exact Le.ic rfl | exact Le.bc rfl | exact Le.i rfl | exact Le.b rfl | exact Le.sl rfl | exact Le.mp rfl | exact Le.csl rfl | exact Le.cslsl rfl | exact Le.nils rfl (fun _ => ⟨trivial, trivial⟩) | refine Le.lst rfl (fun _ _ => rfl) (fun _ => ⟨trivial, trivial⟩) ?_ | refine Le.lst rfl (fun _ _ => rfl) (fun _ => ⟨fun _ => ⟨trivial, trivial⟩, trivial⟩) ?_ | exact Le.nils rfl (fun _ => ⟨fun _ => ⟨trivial, trivial⟩, trivial⟩) | exact Le.nils rfl (fun x => (cCm_ok x).1) | refine Le.lst rfl (fun _ _ => rfl) (fun x => (cCm_ok x).1) ?_ | refine Le.agg ?_ | refine Le.tup ?_ | refine Le.fn ?_ ?_ | refine Le.spt ?_ | exact Le.any _))) <;> exact nx, ⟨⟨by show i + 1 ≤ x.g.length; omega, nj⟩, by show x.g.length - (i + 1) < x.g.length - i; omega⟩⟩

    · have h2 := h2.out
      have hlt : ¬ i < x.g.length := by simp [ltB] at h2; ((try simp only [Go.Vc.natc] at *); omega)
      have e : x.g.take i = x.g := List.take_of_length_le (by omega)
      rw [e] at ht hul
      have hq1 : q = if 500 < (unionM x.h x.g).length then ⟨[], 0, 2⟩ else ⟨unionM x.h x.g, 0, 0⟩ := by rw [hq]; unfold uniM; rw [if_neg (by rw [ht]; simp)]
      cbv
      refine ⟨fun h3 => ?_, fun h3 => ?_⟩
      · have h3 : ltB 500 ((unionM x.h (x.g.take i)).length : Int) = true := h3.out
        rw [e] at h3
        have h3' : 500 < (unionM x.h x.g).length := by simp [ltB] at h3; omega
        rw [if_pos h3'] at hq1
        cbv
        exact ⟨.tup (.cons (.nils (by rw [hq1]) fun y => (cCm_ok y).1) (.cons (.ic (by rw [hq1])) .nil))⟩
      · have h3 : ltB 500 ((unionM x.h (x.g.take i)).length : Int) = false := h3.out
        rw [e] at h3
        have h3' : ¬ 500 < (unionM x.h x.g).length := by simp [ltB] at h3; omega
        rw [if_neg h3'] at hq1
        cbv
        exact ⟨.tup (.cons (.sl (by rw [hq1, e])) (.cons (.ic (by rw [hq1])) .nil))⟩

  · have q1 : (([] : List Cm).length + x.h.length) * 48 ≤ 140737488355328 := by simp; omega
    have q2 : ([] : List Cm).length + x.h.length ≤ 9223372036854775807 := by simp; omega
    cbv
    refine ⟨x.h, ⟨.sl rfl, q1, q2⟩, ?_⟩
    cbv
    refine Sat.loopD ctx24_ok ctx24_inl (lv := 3) (by kernel_rfl) 2 14 [(.t 6, 1)] (fun i : Nat => [(8, .any), (9, .any), (11, .any), (14, .i .i64 (fun _ => (i : Int)))]) (fun i => [(1, .dyn 43 4 cCm (fun _ => unionM x.h (x.g.take i)))])
      (fun i => i ≤ x.g.length ∧ (x.g.take i).any (oddB x.h) = false) (fun i => x.g.length - i) 0 (by ((try cbv) <;> (repeat' (first | with_reducible exact trivial | with_reducible refine And.intro ?_ ?_)) <;> (try first | exact SlotLe.refl _ | exact SlotLe.dyn rfl | exact SlotLe.map rfl | exact SlotLe.iter rfl rfl (.inl rfl) | exact SlotLe.iter rfl rfl (.inr rfl) | refine SlotLe.fix ?_ | refine SlotLe.dyn ?_) <;> ((repeat' first | exact LeL.nil | exact Le.refl _ | refine LeL.cons ?_ ?_ | exact Le.ic rfl | exact Le.bc rfl | exact Le.i rfl | exact Le.b rfl | exact Le.sl rfl | exact Le.mp rfl | exact Le.csl rfl | exact Le.cslsl rfl | exact Le.nils rfl (fun _ => ⟨trivial, trivial⟩) | refine Le.lst rfl (fun _ _ => rfl) (fun _ => ⟨trivial, trivial⟩) ?_ | refine Le.lst rfl (fun _ _ => rfl) (fun _ => ⟨fun _ => ⟨trivial, trivial⟩, trivial⟩) ?_ | exact Le.nils rfl (fun _ => ⟨fun _ => ⟨trivial, trivial⟩, trivial⟩) | exact Le.nils rfl (fun x => (cCm_ok x).1) | refine Le.lst rfl (fun _ _ => rfl) (fun x => (cCm_ok x).1) ?_ | refine Le.agg ?_ | refine Le.tup ?_ | refine Le.fn ?_ ?_ | refine Le.spt ?_ | exact Le.any _)))) (by ((try cbv) <;> (repeat' (first | with_reducible exact trivial | with_reducible refine And.intro ?_ ?_)) <;> (try first | exact SlotLe.refl _ | exact SlotLe.dyn rfl | exact SlotLe.map rfl | exact SlotLe.iter rfl rfl (.inl rfl) | exact SlotLe.iter rfl rfl (.inr rfl) | refine SlotLe.fix ?_ | refine SlotLe.dyn ?_) <;> ((repeat' first | exact LeL.nil | exact Le.refl _ | refine LeL.cons ?_ ?_ | exact Le.ic rfl | exact Le.bc rfl | exact Le.i rfl | exact Le.b rfl | exact Le.sl rfl | exact Le.mp rfl | exact Le.csl rfl | exact Le.cslsl rfl | exact Le.nils rfl (fun _ => ⟨trivial, trivial⟩) | refine Le.lst rfl (fun _ _ => rfl) (fun _ => ⟨trivial, trivial⟩) ?_ | refine Le.lst rfl (fun _ _ => rfl) (fun _ => ⟨fun _ => ⟨trivial, trivial⟩, trivial⟩) ?_ | exact Le.nils rfl (fun _ => ⟨fun _ => ⟨trivial, trivial⟩, trivial⟩) | exact Le.nils rfl (fun x => (cCm_ok x).1) | refine Le.lst rfl (fun _ _ => rfl) (fun x => (cCm_ok x).1) ?_ | refine Le.agg ?_ | refine Le.tup ?_ | refine Le.fn ?_ ?_ | refine Le.spt ?_ | exact Le.any _))) <;> exact u0.symm) ⟨by omega, by simp⟩ ?_
    rintro i ⟨hi, ht⟩
    have hul := union_lt (h := x.h) (g := x.g) i
    cbv
    refine ⟨fun h2 => ?_, fun h2 => ?_⟩
    · have h2 := h2.out
      have hlt : i < x.g.length := by simp [ltB] at h2; ((try simp only [Go.Vc.natc] at *); omega)
      obtain ⟨va, hva⟩ : ∃ v, x.g[i]? = some v := ⟨_, List.getElem?_eq_getElem hlt⟩
      have on := oddB_next (h := x.h) hva
      cbv
      refine ⟨va, ⟨Int.natCast_nonneg i, hva⟩, ?_⟩
      cbv
      refine ⟨⟨x.h, va.id⟩, ⟨by ((repeat' first | exact LeL.nil | exact Le.refl _ | refine LeL.cons ?_ ?_ | exact Le.ic rfl | exact Le.bc rfl | exact Le.i rfl | exact Le.b rfl | exact Le.sl rfl | exact Le.mp rfl | exact Le.csl rfl | exact Le.cslsl rfl | exact Le.nils rfl (fun _ => ⟨trivial, trivial⟩) | refine Le.lst rfl (fun _ _ => rfl) (fun _ => ⟨trivial, trivial⟩) ?_ | refine Le.lst rfl (fun _ _ => rfl) (fun _ => ⟨fun _ => ⟨trivial, trivial⟩, trivial⟩) ?_ | exact Le.nils rfl (fun _ => ⟨fun _ => ⟨trivial, trivial⟩, trivial⟩) | exact Le.nils rfl (fun x => (cCm_ok x).1) | refine Le.lst rfl (fun _ _ => rfl) (fun x => (cCm_ok x).1) ?_ | refine Le.agg ?_ | refine Le.tup ?_ | refine Le.fn ?_ ?_ | refine Le.spt ?_ | exact Le.any _)), hle⟩, ?_⟩
      cbv
      refine ⟨fun h3 => ?_, fun h3 => ?_⟩
      · have f3 : has x.h va.id = false := idx_lt h3.out
        have nx := (union_yes hva f3).symm
        have nj : (x.g.take (i + 1)).any (oddB x.h) = false := by rw [on, ht, oddB_no f3]; rfl
        have q1 : ((unionM x.h (x.g.take i)).length + 1) * 48 ≤ 140737488355328 := by omega
        have q2 : (unionM x.h (x.g.take i)).length + 1 ≤ 9223372036854775807 := by omega
        cbv
        refine ⟨[va], ⟨by ((repeat' first | exact LeL.nil | exact Le.refl _ | refine LeL.cons ?_ ?_ | exact Le.ic rfl | exact Le.bc rfl | exact Le.i rfl | exact Le.b rfl | exact Le.sl rfl | exact Le.mp rfl | exact Le.csl rfl | exact Le.cslsl rfl | exact Le.nils rfl (fun _ => ⟨trivial, trivial⟩) | refine Le.lst rfl (fun _ _ => rfl) (fun _ => ⟨trivial, trivial⟩) ?_ | refine Le.lst rfl (fun _ _ => rfl) (fun _ => ⟨fun _ => ⟨trivial, trivial⟩, trivial⟩) ?_ | exact Le.nils rfl (fun _ => ⟨fun _ => ⟨trivial, trivial⟩, trivial⟩) | exact Le.nils rfl (fun x => (cCm_ok x).1) | refine Le.lst rfl (fun _ _ => rfl) (fun x => (cCm_ok x).1) ?_ | refine Le.agg ?_ | refine Le.tup ?_ | refine Le.fn ?_ ?_ | refine Le.spt ?_ | exact Le.any _)), q1, q2⟩, ?_⟩
        cbv
        exact ⟨i + 1, by ((try cbv) <;> (repeat' (first | with_reducible exact trivial | with_reducible refine And.intro ?_ ?_)) <;> (try first | exact SlotLe.refl _ | exact SlotLe.dyn rfl | exact SlotLe.map rfl | exact SlotLe.iter rfl rfl (.inl rfl) | exact SlotLe.iter rfl rfl (.inr rfl) | refine SlotLe.fix ?_ | refine SlotLe.dyn ?_) <;> ((repeat' first | exact LeL.nil | exact Le.refl _ | refine LeL.cons ?_ ?_ | exact Le.ic rfl | exact Le.bc rfl | exact Le.i rfl | exact Le.b rfl | exact Le.sl rfl | exact Le.mp rfl | exact Le.csl rfl | exact Le.cslsl rfl | exact Le.nils rfl (fun _ => ⟨trivial, trivial⟩) | refine Le.lst rfl (fun _ _ => rfl) (fun _ => ⟨trivial, trivial⟩) ?_ | refine Le.lst rfl (fun _ _ => rfl) (fun _ => ⟨fun _ => ⟨trivial, trivial⟩, trivial⟩) ?_ | exact Le.nils rfl (fun _ => ⟨fun _ => ⟨trivial, trivial⟩, trivial⟩) | exact Le.nils rfl (fun x => (cCm_ok x).1) | refine Le.lst rfl (fun _ _ => rfl) (fun x => (cCm_ok x).1) ?_ | refine Le.agg ?_ | refine Le.tup ?_ | refine Le.fn ?_ ?_ | refine Le.spt ?_ | exact Le.any _))) <;> (refine .i ?_; show IntKind.i64.wrap ((i : Int) + 1) = ((i + 1 : Nat) : Int); rw [w64 (by omega) (by omega)]; rfl), by ((try cbv) <;> (repeat' (first | with_reducible exact trivial | with_reducible refine And.intro ?_ ?_)) <;> (try first | exact SlotLe.refl _ | exact SlotLe.dyn rfl | exact SlotLe.map rfl | exact SlotLe.iter rfl rfl (.inl rfl) | exact SlotLe.iter rfl rfl (.inr rfl) | refine SlotLe.fix ?_ | refine SlotLe.dyn ?_) <;> ((repeat' first | exact LeL.nil | exact Le.refl _ | refine LeL.cons ?_ ?_ | exact Le.ic rfl | exact Le.bc rfl | exact Le.i rfl | exact Le.b rfl | exact Le.sl rfl | exact Le.mp rfl | exact Le.csl rfl | exact Le.cslsl rfl | exact Le.nils rfl (fun _ => ⟨trivial, trivial⟩) | refine Le.lst rfl (fun _ _ => rfl) (fun _ => ⟨trivial, trivial⟩) ?_ | refine Le.lst rfl (fun _ _ => rfl) (fun _ => ⟨fun _ => ⟨trivial, trivial⟩, trivial⟩) ?_ | exact Le.nils rfl (fun _ => ⟨fun _ => ⟨trivial, trivial⟩, trivial⟩) | exact Le.nils rfl (fun x => (cCm_ok x).1) | refine Le.lst rfl (fun _ _ => rfl) (fun x => (cCm_ok x).1) ?_ | refine Le.agg ?_ | refine Le.tup ?_ | refine Le.fn ?_ ?_ | refine Le.spt ?_ | exact Le.any _))) <;> exact nx, ⟨⟨by show i + 1 ≤ x.g.length; omega, nj⟩, by show x.g.length - (i + 1) < x.g.length - i; omega⟩⟩

      · have f3 : has x.h va.id = true := idx_lt h3.out
        obtain ⟨o, ho, hoi⟩ := idx_get f3
        have hix := (has_lt f3).1
        have hop := Hh.get ho
        have oa := oddB_at ho
        cbv
        refine ⟨o, ⟨hix, ho⟩, ?_⟩
        cbv
        refine ⟨⟨o, va⟩, ⟨by ((repeat' first | exact LeL.nil | exact Le.refl _ | refine LeL.cons ?_ ?_ | exact Le.ic rfl | exact Le.bc rfl | exact Le.i rfl | exact Le.b rfl | exact Le.sl rfl | exact Le.mp rfl | exact Le.csl rfl | exact Le.cslsl rfl | exact Le.nils rfl (fun _ => ⟨trivial, trivial⟩) | refine Le.lst rfl (fun _ _ => rfl) (fun _ => ⟨trivial, trivial⟩) ?_ | refine Le.lst rfl (fun _ _ => rfl) (fun _ => ⟨fun _ => ⟨trivial, trivial⟩, trivial⟩) ?_ | exact Le.nils rfl (fun _ => ⟨fun _ => ⟨trivial, trivial⟩, trivial⟩) | exact Le.nils rfl (fun x => (cCm_ok x).1) | refine Le.lst rfl (fun _ _ => rfl) (fun x => (cCm_ok x).1) ?_ | refine Le.agg ?_ | refine Le.tup ?_ | refine Le.fn ?_ ?_ | refine Le.spt ?_ | exact Le.any _)), by show o.par.length < _; omega⟩, ?_⟩
        cbv
        refine ⟨fun h4 => ?_, fun h4 => ?_⟩
        · have h4 : (!o.same va) = true := h4.out
          have hod := odd_all (h := x.h) hva (by rw [oa, f3, h4]; rfl)
          have hq : q = ⟨[], 0, 190⟩ := by rw [hq]; unfold uniM; rw [if_pos hod]
          cbv
          exact ⟨.tup (.cons (.nils (by rw [hq]) fun y => (cCm_ok y).1) (.cons (.ic (by rw [hq])) .nil))⟩
        · have h4 : (!o.same va) = false := h4.out
          have nx := (union_no hva f3).symm
          have nj : (x.g.take (i + 1)).any (oddB x.h) = false := by rw [on, ht, oa, h4]; simp
          cbv
          exact ⟨i + 1, by ((try cbv) <;> (repeat' (first | with_reducible exact trivial | with_reducible refine And.intro ?_ ?_)) <;> (try first | exact SlotLe.refl _ | exact SlotLe.dyn rfl | exact SlotLe.map rfl | exact SlotLe.iter rfl rfl (.inl rfl) | exact SlotLe.iter rfl rfl (.inr rfl) | refine SlotLe.fix ?_ | refine SlotLe.dyn ?_) <;> ((repeat' first | exact LeL.nil | exact Le.refl _ | refine LeL.cons ?_ ?_ | exact Le.ic rfl | exact Le.bc rfl | exact Le.i rfl | exact Le.b rfl | exact Le.sl rfl | exact Le.mp rfl | exact Le.csl rfl | exact Le.cslsl rfl | exact Le.nils rfl (fun _ => ⟨trivial, trivial⟩) | refine Le.lst rfl (fun _ _ => rfl) (fun _ => ⟨trivial, trivial⟩) ?_ | refine Le.lst rfl (fun _ _ => rfl) (fun _ => ⟨fun _ => ⟨trivial, trivial⟩, trivial⟩) ?_ | exact Le.nils rfl (fun _ => ⟨fun _ => ⟨trivial, trivial⟩, trivial⟩) | exact Le.nils rfl (fun x => (cCm_ok x).1) | refine Le.lst rfl (fun _ _ => rfl) (fun x => (cCm_ok x).1) ?_ | refine Le.agg ?_ | refine Le.tup ?_ | refine Le.fn ?_ ?_ | refine Le.spt ?_ | exact Le.any _))) <;> (refine .i ?_; show IntKind.i64.wrap ((i : Int) + 1) = ((i + 1 : Nat) : Int); rw [w64 (by omega) (by omega)]; rfl), by ((try cbv) <;> (repeat' (first | with_reducible exact trivial | with_reducible refine And.intro ?_ ?_)) <;> (try first | exact SlotLe.refl _ | exact SlotLe.dyn rfl | exact SlotLe.map rfl | exact SlotLe.iter rfl rfl (.inl rfl) | exact SlotLe.iter rfl rfl (.inr rfl) | refine SlotLe.fix ?_ | refine SlotLe.dyn ?_) <;> ((repeat' first | exact LeL.nil | exact Le.refl _ | refine LeL.cons ?_ ?_ | exact Le.ic rfl | exact Le.bc rfl | exact Le.i rfl | exact Le.b rfl | exact Le.sl rfl | exact Le.mp rfl | exact Le.csl rfl | exact Le.cslsl rfl | exact Le.nils rfl (fun _ => ⟨trivial, trivial⟩) | refine Le.lst rfl (fun _ _ => rfl) (fun _ => ⟨trivial, trivial⟩) ?_ | refine Le.lst rfl (fun _ _ => rfl) (fun _ => ⟨fun _ => ⟨trivial, trivial⟩, trivial⟩) ?_ | exact Le.nils rfl (fun _ => ⟨fun _ => ⟨trivial, trivial⟩, trivial⟩) | exact Le.nils rfl (fun x => (cCm_ok x).1) | refine Le.lst rfl (fun _ _ => rfl) (fun x => (cCm_ok x).1) ?_ | refine Le.agg ?_ | refine Le.tup ?_ | refine Le.fn ?_ ?_ | refine Le.spt ?_ | exact Le.any _))) <;> exact nx, ⟨⟨by show i + 1 ≤ x.g.length; omega, nj⟩, by show x.g.length - (i + 1) < x.g.length - i; omega⟩⟩

    · have h2 := h2.out
      have hlt : ¬ i < x.g.length := by simp [ltB] at h2; ((try simp only [Go.Vc.natc] at *); omega)
      have e : x.g.take i = x.g := List.take_of_length_le (by omega)
      rw [e] at ht hul
      have hq1 : q = if 500 < (unionM x.h x.g).length then ⟨[], 0, 2⟩ else ⟨unionM x.h x.g, 0, 0⟩ := by rw [hq]; unfold uniM; rw [if_neg (by rw [ht]; simp)]
      cbv
      refine ⟨fun h3 => ?_, fun h3 => ?_⟩
      · have h3 : ltB 500 ((unionM x.h (x.g.take i)).length : Int) = true := h3.out
        rw [e] at h3
        have h3' : 500 < (unionM x.h x.g).length := by simp [ltB] at h3; omega
        rw [if_pos h3'] at hq1
        cbv
        exact ⟨.tup (.cons (.nils (by rw [hq1]) fun y => (cCm_ok y).1) (.cons (.ic (by rw [hq1])) .nil))⟩
      · have h3 : ltB 500 ((unionM x.h (x.g.take i)).length : Int) = false := h3.out
        rw [e] at h3
        have h3' : ¬ 500 < (unionM x.h x.g).length := by simp [ltB] at h3; omega
        rw [if_neg h3'] at hq1
        cbv
        exact ⟨.tup (.cons (.sl (by rw [hq1, e])) (.cons (.ic (by rw [hq1])) .nil))⟩


noncomputable def sp25 : List (Nat × Vc.Spec) := (45, UniS) :: sp23
theorem sp25_ok : All (fun f S => SpecOk (PP ()) f S) sp25 := ⟨Uni_ok, sp23_ok⟩

noncomputable def ctx25 : Ctx := { tt := tt, el := el, sp := fun f => tab sp25 f, inl := fun f => tab inl2 f }
theorem ctx25_ok : ctx25.Ok (PP ()) := ⟨tt_ok, el_ok ctx25 rfl, tab_all sp25_ok, fun f fn h => (tab_all inl2_ok f fn h).1, mixed⟩
theorem ctx25_inl : InlOk ctx25 := fun f fn h => (tab_all inl2_ok f fn h).2

def UniAS : Vc.Spec where
  α := HG
  args x := [.sl 4 cCm (fun _ => x.h), .sl 4 cCm (fun _ => x.g)]
  pre x := HGok x
  res x := .agg (Ad.cells fun _ => uniM x.h x.g)
theorem uniM_i (h g : List Cm) : (uniM h g).i = 0 := by
  unfold uniM
  split
  · rfl
  · split <;> rfl
theorem UniA_ok : SpecOk (PP ()) 25 UniAS := by
  refine spec_of_vc (lv := 2) ctx25_ok ctx25_inl (fnOk_of Try.func25 (by kernel_rfl)) (by kernel_rfl) (fun a => by simp [UniAS, LFL, LF, cU64, cCm, Cm.cells, Ad.cells]) (fun a => by simp [UniAS, LFL, LF, cU64, cCm, Cm.cells, Ad.cells]) ?_
  intro x hx
  have hi := uniM_i x.h x.g
  refine ⟨?_⟩
  cbv
  refine ⟨x, ⟨by ((repeat' first | exact LeL.nil | exact Le.refl _ | refine LeL.cons ?_ ?_ | exact Le.ic rfl | exact Le.bc rfl | exact Le.i rfl | exact Le.b rfl | exact Le.sl rfl | exact Le.mp rfl | exact Le.csl rfl | exact Le.cslsl rfl | exact Le.nils rfl (fun _ => ⟨trivial, trivial⟩) | refine Le.lst rfl (fun _ _ => rfl) (fun _ => ⟨trivial, trivial⟩) ?_ | refine Le.lst rfl (fun _ _ => rfl) (fun _ => ⟨fun _ => ⟨trivial, trivial⟩, trivial⟩) ?_ | exact Le.nils rfl (fun _ => ⟨fun _ => ⟨trivial, trivial⟩, trivial⟩) | exact Le.nils rfl (fun x => (cCm_ok x).1) | refine Le.lst rfl (fun _ _ => rfl) (fun x => (cCm_ok x).1) ?_ | refine Le.agg ?_ | refine Le.tup ?_ | refine Le.fn ?_ ?_ | refine Le.spt ?_ | exact Le.any _)), ⟨hx.h, hx.g⟩⟩, ?_⟩
  cbv
  exact ⟨.agg (.cons (.sl rfl) (.cons (.ic hi.symm) (.cons (.i rfl) .nil)))⟩
def clashM (h g : List Cm) : Bool := h.any fun c => g.any fun d => c.id == d.id && !c.same d
def ClashS : Vc.Spec where
  α := HG
  args x := [.sl 4 cCm (fun _ => x.h), .sl 4 cCm (fun _ => x.g)]
  pre x := HGok x
  res x := .b (fun _ => clashM x.h x.g)
theorem cany_next {D : List Cm} {p : Cm → Bool} {j : Nat} {v : Cm} (hv : D[j]? = some v) : (D.take (j + 1)).any p = ((D.take j).any p || p v) := by
  rw [List.take_add_one, hv, List.any_append]
  simp
theorem Clash_ok : SpecOk (PP ()) 26 ClashS := by
  refine spec_of_vc (lv := 2) ctx25_ok ctx25_inl (fnOk_of Try.func26 (by kernel_rfl)) (by kernel_rfl) (fun a => by simp [ClashS, LFL, LF, cU64, cCm, Cm.cells]) (fun a => by simp [ClashS, LFL, LF, cU64, cCm, Cm.cells]) ?_
  intro x hx
  have Hh : Hs x.h := hx.h
  have Hg : Hs x.g := hx.g
  have hhn := Hh.n
  have hgn := Hg.n
  obtain ⟨q, hq⟩ : ∃ q, q = clashM x.h x.g := ⟨_, rfl⟩
  have hr : ClashS.res x = .b (fun _ => q) := by rw [hq]; rfl
  rw [hr]
  refine ⟨?_⟩
  cbv
  refine Sat.loopD ctx25_ok ctx25_inl (lv := 2) (by kernel_rfl) 0 5 [] (fun i : Nat => [(5, .i .i64 (fun _ => (i : Int)))]) (fun i => [])
    (fun i => i ≤ x.h.length ∧ ((x.h.take i).any fun c => x.g.any fun d => c.id == d.id && !c.same d) = false) (fun i => x.h.length - i) 0 (by ((try cbv) <;> (repeat' (first | with_reducible exact trivial | with_reducible refine And.intro ?_ ?_)) <;> (try first | exact SlotLe.refl _ | exact SlotLe.dyn rfl | exact SlotLe.map rfl | exact SlotLe.iter rfl rfl (.inl rfl) | exact SlotLe.iter rfl rfl (.inr rfl) | refine SlotLe.fix ?_ | refine SlotLe.dyn ?_) <;> ((repeat' first | exact LeL.nil | exact Le.refl _ | refine LeL.cons ?_ ?_ | exact Le.ic rfl | exact Le.bc rfl | exact Le.i rfl | exact Le.b rfl | exact Le.sl rfl | exact Le.mp rfl | exact Le.csl rfl | exact Le.cslsl rfl | exact Le.nils rfl (fun _ => ⟨trivial, trivial⟩) | refine Le.lst rfl (fun _ _ => rfl) (fun _ => ⟨trivial, trivial⟩) ?_ | refine Le.lst rfl (fun _ _ => rfl) (fun _ => ⟨fun _ => ⟨trivial, trivial⟩, trivial⟩) ?_ | exact Le.nils rfl (fun _ => ⟨fun _ => ⟨trivial, trivial⟩, trivial⟩) | exact Le.nils rfl (fun x => (cCm_ok x).1) | refine Le.lst rfl (fun _ _ => rfl) (fun x => (cCm_ok x).1) ?_ | refine Le.agg ?_ | refine Le.tup ?_ | refine Le.fn ?_ ?_ | refine Le.spt ?_ | exact Le.any _)))) (by ((try cbv) <;> (repeat' (first | with_reducible exact trivial | with_reducible refine And.intro ?_ ?_)) <;> (try first | exact SlotLe.refl _ | exact SlotLe.dyn rfl | exact SlotLe.map rfl | exact SlotLe.iter rfl rfl (.inl rfl) | exact SlotLe.iter rfl rfl (.inr rfl) | refine SlotLe.fix ?_ | refine SlotLe.dyn ?_) <;> ((repeat' first | exact LeL.nil | exact Le.refl _ | refine LeL.cons ?_ ?_ | exact Le.ic rfl | exact Le.bc rfl | exact Le.i rfl | exact Le.b rfl | exact Le.sl rfl | exact Le.mp rfl | exact Le.csl rfl | exact Le.cslsl rfl | exact Le.nils rfl (fun _ => ⟨trivial, trivial⟩) | refine Le.lst rfl (fun _ _ => rfl) (fun _ => ⟨trivial, trivial⟩) ?_ | refine Le.lst rfl (fun _ _ => rfl) (fun _ => ⟨fun _ => ⟨trivial, trivial⟩, trivial⟩) ?_ | exact Le.nils rfl (fun _ => ⟨fun _ => ⟨trivial, trivial⟩, trivial⟩) | exact Le.nils rfl (fun x => (cCm_ok x).1) | refine Le.lst rfl (fun _ _ => rfl) (fun x => (cCm_ok x).1) ?_ | refine Le.agg ?_ | refine Le.tup ?_ | refine Le.fn ?_ ?_ | refine Le.spt ?_ | exact Le.any _)))) ⟨by omega, by simp⟩ ?_
  rintro i ⟨hi, ht⟩
  cbv
  refine ⟨fun h2 => ?_, fun h2 => ?_⟩
  · have h2 := h2.out
    have hlt : i < x.h.length := by simp [ltB] at h2; ((try simp only [Go.Vc.natc] at *); omega)
    obtain ⟨va, hva⟩ : ∃ v, x.h[i]? = some v := ⟨_, List.getElem?_eq_getElem hlt⟩
    have on := cany_next (p := fun c => x.g.any fun d => c.id == d.id && !c.same d) hva
    have hap := Hh.get hva
    have hi2 : 0 ≤ (i : Int) := Int.natCast_nonneg i
    cbv
    refine Sat.loopD ctx25_ok ctx25_inl (lv := 2) (by kernel_rfl) 0 6 [] (fun j : Nat => [(6, .i .i64 (fun _ => (j : Int)))]) (fun j => [])
      (fun j => j ≤ x.g.length ∧ ((x.g.take j).any fun d => va.id == d.id && !va.same d) = false) (fun j => x.g.length - j) 0 (by ((try cbv) <;> (repeat' (first | with_reducible exact trivial | with_reducible refine And.intro ?_ ?_)) <;> (try first | exact SlotLe.refl _ | exact SlotLe.dyn rfl | exact SlotLe.map rfl | exact SlotLe.iter rfl rfl (.inl rfl) | exact SlotLe.iter rfl rfl (.inr rfl) | refine SlotLe.fix ?_ | refine SlotLe.dyn ?_) <;> ((repeat' first | exact LeL.nil | exact Le.refl _ | refine LeL.cons ?_ ?_ | exact Le.ic rfl | exact Le.bc rfl | exact Le.i rfl | exact Le.b rfl | exact Le.sl rfl | exact Le.mp rfl | exact Le.csl rfl | exact Le.cslsl rfl | exact Le.nils rfl (fun _ => ⟨trivial, trivial⟩) | refine Le.lst rfl (fun _ _ => rfl) (fun _ => ⟨trivial, trivial⟩) ?_ | refine Le.lst rfl (fun _ _ => rfl) (fun _ => ⟨fun _ => ⟨trivial, trivial⟩, trivial⟩) ?_ | exact Le.nils rfl (fun _ => ⟨fun _ => ⟨trivial, trivial⟩, trivial⟩) | exact Le.nils rfl (fun x => (cCm_ok x).1) | refine Le.lst rfl (fun _ _ => rfl) (fun x => (cCm_ok x).1) ?_ | refine Le.agg ?_ | refine Le.tup ?_ | refine Le.fn ?_ ?_ | refine Le.spt ?_ | exact Le.any _)))) (by ((try cbv) <;> (repeat' (first | with_reducible exact trivial | with_reducible refine And.intro ?_ ?_)) <;> (try first | exact SlotLe.refl _ | exact SlotLe.dyn rfl | exact SlotLe.map rfl | exact SlotLe.iter rfl rfl (.inl rfl) | exact SlotLe.iter rfl rfl (.inr rfl) | refine SlotLe.fix ?_ | refine SlotLe.dyn ?_) <;> ((repeat' first | exact LeL.nil | exact Le.refl _ | refine LeL.cons ?_ ?_ | exact Le.ic rfl | exact Le.bc rfl | exact Le.i rfl | exact Le.b rfl | exact Le.sl rfl | exact Le.mp rfl | exact Le.csl rfl | exact Le.cslsl rfl | exact Le.nils rfl (fun _ => ⟨trivial, trivial⟩) | refine Le.lst rfl (fun _ _ => rfl) (fun _ => ⟨trivial, trivial⟩) ?_ | refine Le.lst rfl (fun _ _ => rfl) (fun _ => ⟨fun _ => ⟨trivial, trivial⟩, trivial⟩) ?_ | exact Le.nils rfl (fun _ => ⟨fun _ => ⟨trivial, trivial⟩, trivial⟩) | exact Le.nils rfl (fun x => (cCm_ok x).1) | refine Le.lst rfl (fun _ _ => rfl) (fun x => (cCm_ok x).1) ?_ | refine Le.agg ?_ | refine Le.tup ?_ | refine Le.fn ?_ ?_ | refine Le.spt ?_ | exact Le.any _)))) ⟨by omega, by simp⟩ ?_
    rintro j ⟨hj, hu⟩
    cbv
    refine ⟨fun h3 => ?_, fun h3 => ?_⟩
    · have h3 := h3.out
      have hltj : j < x.g.length := by simp [ltB] at h3; ((try simp only [Go.Vc.natc] at *); omega)
      obtain ⟨vb, hvb⟩ : ∃ v, x.g[j]? = some v := ⟨_, List.getElem?_eq_getElem hltj⟩
      have om := cany_next (p := fun d => va.id == d.id && !va.same d) hvb
      have hj2 : 0 ≤ (j : Int) := Int.natCast_nonneg j
      have nxt : (va.id == vb.id && !va.same vb) = false → ((x.g.take (j + 1)).any fun d => va.id == d.id && !va.same d) = false := fun e => by rw [om, hu, e]; rfl
      cbv
      refine ⟨va, ⟨hi2, hva⟩, ?_⟩
      cbv
      refine ⟨vb, ⟨hj2, hvb⟩, ?_⟩
      cbv
      refine ⟨fun h4 => ?_, fun h4 => ?_⟩
      · have h4 : eqB va.id vb.id = true := h4.out
        have h4' : (va.id == vb.id) = true := by simpa [eqB] using h4
        cbv
        refine ⟨va, ⟨hi2, hva⟩, ?_⟩
        cbv
        refine ⟨vb, ⟨hj2, hvb⟩, ?_⟩
        cbv
        refine ⟨⟨va, vb⟩, ⟨by ((repeat' first | exact LeL.nil | exact Le.refl _ | refine LeL.cons ?_ ?_ | exact Le.ic rfl | exact Le.bc rfl | exact Le.i rfl | exact Le.b rfl | exact Le.sl rfl | exact Le.mp rfl | exact Le.csl rfl | exact Le.cslsl rfl | exact Le.nils rfl (fun _ => ⟨trivial, trivial⟩) | refine Le.lst rfl (fun _ _ => rfl) (fun _ => ⟨trivial, trivial⟩) ?_ | refine Le.lst rfl (fun _ _ => rfl) (fun _ => ⟨fun _ => ⟨trivial, trivial⟩, trivial⟩) ?_ | exact Le.nils rfl (fun _ => ⟨fun _ => ⟨trivial, trivial⟩, trivial⟩) | exact Le.nils rfl (fun x => (cCm_ok x).1) | refine Le.lst rfl (fun _ _ => rfl) (fun x => (cCm_ok x).1) ?_ | refine Le.agg ?_ | refine Le.tup ?_ | refine Le.fn ?_ ?_ | refine Le.spt ?_ | exact Le.any _)), by show va.par.length < _; omega⟩, ?_⟩
        cbv
        refine ⟨fun h5 => ?_, fun h5 => ?_⟩
        · have h5 : (!va.same vb) = true := h5.out
          have hqt : true = q := by
            rw [hq]
            refine (List.any_eq_true.2 ⟨va, List.mem_of_getElem? hva, List.any_eq_true.2 ⟨vb, List.mem_of_getElem? hvb, ?_⟩⟩).symm
            rw [h4', h5]; rfl
          cbv
          exact ⟨.bc hqt⟩
        · have h5 : (!va.same vb) = false := h5.out
          have nxt := nxt (by rw [h5]; simp)
          cbv
          exact ⟨j + 1, by ((try cbv) <;> (repeat' (first | with_reducible exact trivial | with_reducible refine And.intro ?_ ?_)) <;> (try first | exact SlotLe.refl _ | exact SlotLe.dyn rfl | exact SlotLe.map rfl | exact SlotLe.iter rfl rfl (.inl rfl) | exact SlotLe.iter rfl rfl (.inr rfl) | refine SlotLe.fix ?_ | refine SlotLe.dyn ?_) <;> ((repeat' first | exact LeL.nil | exact Le.refl _ | refine LeL.cons ?_ ?_ | exact Le.ic rfl | exact Le.bc rfl | exact Le.i rfl | exact Le.b rfl | exact Le.sl rfl | exact Le.mp rfl | exact Le.csl rfl | exact Le.cslsl rfl | exact Le.nils rfl (fun _ => ⟨trivial, trivial⟩) | refine Le.lst rfl (fun _ _ => rfl) (fun _ => ⟨trivial, trivial⟩) ?_ | refine Le.lst rfl (fun _ _ => rfl) (fun _ => ⟨fun _ => ⟨trivial, trivial⟩, trivial⟩) ?_ | exact Le.nils rfl (fun _ => ⟨fun _ => ⟨trivial, trivial⟩, trivial⟩) | exact Le.nils rfl (fun x => (cCm_ok x).1) | refine Le.lst rfl (fun _ _ => rfl) (fun x => (cCm_ok x).1) ?_ | refine Le.agg ?_ | refine Le.tup ?_ | refine Le.fn ?_ ?_ | refine Le.spt ?_ | exact Le.any _))) <;> (refine .i ?_; show IntKind.i64.wrap ((j : Int) + 1) = ((j + 1 : Nat) : Int); rw [w64 (by omega) (by omega)]; rfl), by ((try cbv) <;> (repeat' (first | with_reducible exact trivial | with_reducible refine And.intro ?_ ?_)) <;> (try first | exact SlotLe.refl _ | exact SlotLe.dyn rfl | exact SlotLe.map rfl | exact SlotLe.iter rfl rfl (.inl rfl) | exact SlotLe.iter rfl rfl (.inr rfl) | refine SlotLe.fix ?_ | refine SlotLe.dyn ?_) <;> ((repeat' first | exact LeL.nil | exact Le.refl _ | refine LeL.cons ?_ ?_ | exact Le.ic rfl | exact Le.bc rfl | exact Le.i rfl | exact Le.b rfl | exact Le.sl rfl | exact Le.mp rfl | exact Le.csl rfl | exact Le.cslsl rfl | exact Le.nils rfl (fun _ => ⟨trivial, trivial⟩) | refine Le.lst rfl (fun _ _ => rfl) (fun _ => ⟨trivial, trivial⟩) ?_ | refine Le.lst rfl (fun _ _ => rfl) (fun _ => ⟨fun _ => ⟨trivial, trivial⟩, trivial⟩) ?_ | exact Le.nils rfl (fun _ => ⟨fun _ => ⟨trivial, trivial⟩, trivial⟩) | exact Le.nils rfl (fun x => (cCm_ok x).1) | refine Le.lst rfl (fun _ _ => rfl) (fun x => (cCm_ok x).1) ?_ | refine Le.agg ?_ | refine Le.tup ?_ | refine Le.fn ?_ ?_ | refine Le.spt ?_ | exact Le.any _))), ⟨⟨by show j + 1 ≤ x.g.length; omega, nxt⟩, by show x.g.length - (j + 1) < x.g.length - j; omega⟩⟩
      · have h4 : eqB va.id vb.id = false := h4.out
        have h4' : (va.id == vb.id) = false := by simpa [eqB] using h4
        have nxt := nxt (by rw [h4']; rfl)
        cbv
        exact ⟨j + 1, by ((try cbv) <;> (repeat' (first | with_reducible exact trivial | with_reducible refine And.intro ?_ ?_)) <;> (try first | exact SlotLe.refl _ | exact SlotLe.dyn rfl | exact SlotLe.map rfl | exact SlotLe.iter rfl rfl (.inl rfl) | exact SlotLe.iter rfl rfl (.inr rfl) | refine SlotLe.fix ?_ | refine SlotLe.dyn ?_) <;> ((repeat' first | exact LeL.nil | exact Le.refl _ | refine LeL.cons ?_ ?_ | exact Le.ic rfl | exact Le.bc rfl | exact Le.i rfl | exact Le.b rfl | exact Le.sl rfl | exact Le.mp rfl | exact Le.csl rfl | exact Le.cslsl rfl | exact Le.nils rfl (fun _ => ⟨trivial, trivial⟩) | refine Le.lst rfl (fun _ _ => rfl) (fun _ => ⟨trivial, trivial⟩) ?_ | refine Le.lst rfl (fun _ _ => rfl) (fun _ => ⟨fun _ => ⟨trivial, trivial⟩, trivial⟩) ?_ | exact Le.nils rfl (fun _ => ⟨fun _ => ⟨trivial, trivial⟩, trivial⟩) | exact Le.nils rfl (fun x => (cCm_ok x).1) | refine Le.lst rfl (fun _ _ => rfl) (fun x => (cCm_ok x).1) ?_ | refine Le.agg ?_ | refine Le.tup ?_ | refine Le.fn ?_ ?_ | refine Le.spt ?_ | exact Le.any _))) <;> (refine .i ?_; show IntKind.i64.wrap ((j : Int) + 1) = ((j + 1 : Nat) : Int); rw [w64 (by omega) (by omega)]; rfl), by ((try cbv) <;> (repeat' (first | with_reducible exact trivial | with_reducible refine And.intro ?_ ?_)) <;> (try first | exact SlotLe.refl _ | exact SlotLe.dyn rfl | exact SlotLe.map rfl | exact SlotLe.iter rfl rfl (.inl rfl) | exact SlotLe.iter rfl rfl (.inr rfl) | refine SlotLe.fix ?_ | refine SlotLe.dyn ?_) <;> ((repeat' first | exact LeL.nil | exact Le.refl _ | refine LeL.cons ?_ ?_ | exact Le.ic rfl | exact Le.bc rfl | exact Le.i rfl | exact Le.b rfl | exact Le.sl rfl | exact Le.mp rfl | exact Le.csl rfl | exact Le.cslsl rfl | exact Le.nils rfl (fun _ => ⟨trivial, trivial⟩) | refine Le.lst rfl (fun _ _ => rfl) (fun _ => ⟨trivial, trivial⟩) ?_ | refine Le.lst rfl (fun _ _ => rfl) (fun _ => ⟨fun _ => ⟨trivial, trivial⟩, trivial⟩) ?_ | exact Le.nils rfl (fun _ => ⟨fun _ => ⟨trivial, trivial⟩, trivial⟩) | exact Le.nils rfl (fun x => (cCm_ok x).1) | refine Le.lst rfl (fun _ _ => rfl) (fun x => (cCm_ok x).1) ?_ | refine Le.agg ?_ | refine Le.tup ?_ | refine Le.fn ?_ ?_ | refine Le.spt ?_ | exact Le.any _))), ⟨⟨by show j + 1 ≤ x.g.length; omega, nxt⟩, by show x.g.length - (j + 1) < x.g.length - j; omega⟩⟩
    · have h3 := h3.out
      have hltj : ¬ j < x.g.length := by simp [ltB] at h3; ((try simp only [Go.Vc.natc] at *); omega)
      rw [List.take_of_length_le (by omega)] at hu
      have nj : ((x.h.take (i + 1)).any fun c => x.g.any fun d => c.id == d.id && !c.same d) = false := by rw [on, ht, hu]; rfl
      cbv
      exact ⟨i + 1, by ((try cbv) <;> (repeat' (first | with_reducible exact trivial | with_reducible refine And.intro ?_ ?_)) <;> (try first | exact SlotLe.refl _ | exact SlotLe.dyn rfl | exact SlotLe.map rfl | exact SlotLe.iter rfl rfl (.inl rfl) | exact SlotLe.iter rfl rfl (.inr rfl) | refine SlotLe.fix ?_ | refine SlotLe.dyn ?_) <;> ((repeat' first | exact LeL.nil | exact Le.refl _ | refine LeL.cons ?_ ?_ | exact Le.ic rfl | exact Le.bc rfl | exact Le.i rfl | exact Le.b rfl | exact Le.sl rfl | exact Le.mp rfl | exact Le.csl rfl | exact Le.cslsl rfl | exact Le.nils rfl (fun _ => ⟨trivial, trivial⟩) | refine Le.lst rfl (fun _ _ => rfl) (fun _ => ⟨trivial, trivial⟩) ?_ | refine Le.lst rfl (fun _ _ => rfl) (fun _ => ⟨fun _ => ⟨trivial, trivial⟩, trivial⟩) ?_ | exact Le.nils rfl (fun _ => ⟨fun _ => ⟨trivial, trivial⟩, trivial⟩) | exact Le.nils rfl (fun x => (cCm_ok x).1) | refine Le.lst rfl (fun _ _ => rfl) (fun x => (cCm_ok x).1) ?_ | refine Le.agg ?_ | refine Le.tup ?_ | refine Le.fn ?_ ?_ | refine Le.spt ?_ | exact Le.any _))) <;> (refine .i ?_; show IntKind.i64.wrap ((i : Int) + 1) = ((i + 1 : Nat) : Int); rw [w64 (by omega) (by omega)]; rfl), by ((try cbv) <;> (repeat' (first | with_reducible exact trivial | with_reducible refine And.intro ?_ ?_)) <;> (try first | exact SlotLe.refl _ | exact SlotLe.dyn rfl | exact SlotLe.map rfl | exact SlotLe.iter rfl rfl (.inl rfl) | exact SlotLe.iter rfl rfl (.inr rfl) | refine SlotLe.fix ?_ | refine SlotLe.dyn ?_) <;> ((repeat' first | exact LeL.nil | exact Le.refl _ | refine LeL.cons ?_ ?_ | exact Le.ic rfl | exact Le.bc rfl | exact Le.i rfl | exact Le.b rfl | exact Le.sl rfl | exact Le.mp rfl | exact Le.csl rfl | exact Le.cslsl rfl | exact Le.nils rfl (fun _ => ⟨trivial, trivial⟩) | refine Le.lst rfl (fun _ _ => rfl) (fun _ => ⟨trivial, trivial⟩) ?_ | refine Le.lst rfl (fun _ _ => rfl) (fun _ => ⟨fun _ => ⟨trivial, trivial⟩, trivial⟩) ?_ | exact Le.nils rfl (fun _ => ⟨fun _ => ⟨trivial, trivial⟩, trivial⟩) | exact Le.nils rfl (fun x => (cCm_ok x).1) | refine Le.lst rfl (fun _ _ => rfl) (fun x => (cCm_ok x).1) ?_ | refine Le.agg ?_ | refine Le.tup ?_ | refine Le.fn ?_ ?_ | refine Le.spt ?_ | exact Le.any _))), ⟨⟨by show i + 1 ≤ x.h.length; omega, nj⟩, by show x.h.length - (i + 1) < x.h.length - i; omega⟩⟩
  · have h2 := h2.out
    have hlt : ¬ i < x.h.length := by simp [ltB] at h2; ((try simp only [Go.Vc.natc] at *); omega)
    rw [List.take_of_length_le (by omega)] at ht
    have hqf : false = q := by rw [hq]; exact ht.symm
    cbv
    exact ⟨.bc hqf⟩

end Go.Proofs.Hist
