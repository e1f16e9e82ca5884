/-
  The histories' functions: the fixed calls
-/
import Derived.Test.YtpbechemimnikaaHisN
set_option linter.unusedVariables false
set_option linter.unusedSimpArgs false
set_option maxRecDepth 10000
set_option maxHeartbeats 8000000
namespace Go.Proofs.Hist
open Go Go.Vc

noncomputable def sp22 : List (Nat × Vc.Spec) := (11, PickS) :: (14, AncAS) :: (16, BasAS) :: (19, BetAS) :: (20, AddAS) :: (17, SameNS) :: sp21
theorem sp22_ok : All (fun f S => SpecOk (PP ()) f S) sp22 := ⟨Pick_ok, AncA_ok, BasA_ok, BetA_ok, AddA_ok, SameN_ok, sp21_ok⟩

noncomputable def ctx22 : Ctx := { tt := tt, el := el, sp := fun f => tab sp22 f, inl := fun f => tab inl2 f }
theorem ctx22_ok : ctx22.Ok (PP ()) := ⟨tt_ok, el_ok ctx22 rfl, tab_all sp22_ok, fun f fn h => (tab_all inl2_ok f fn h).1, mixed⟩
theorem ctx22_inl : InlOk ctx22 := fun f fn h => (tab_all inl2_ok f fn h).2

def foldW0 (h : Int) (l : List Int) : Int := l.foldl (fun h n => step0 h (IntKind.u64.wrap n)) h
def wordsW0 (l : List Int) : Int := step0 (foldW0 512970876019 l) (IntKind.u64.wrap l.length)
def dg0 (c : Cm) : Int := wordsW0 (words c)
theorem wordsW_eq : wordsW = wordsW0 := by
  funext l
  simp only [wordsW, foldW, stepW_eq]
  rfl
theorem dgW_eq : dgW = dg0 := by
  funext c
  simp only [dgW, wordsW_eq]
  rfl
theorem okC_eq {h : List Cm} (e : okH dg0 h = true) : okC h = 0 := okC_yes (by rw [dgW_eq]; exact e)
/-- Five commits. -/
structure Exs (a b c d e : Ad) : Prop where
  qa : a = addM dgW [] ⟨0, [], 1, 0⟩
  qb : b = addM dgW a.h ⟨0, [a.i], 2, 0⟩
  qc : c = addM dgW b.h ⟨0, [a.i], 3, 0⟩
  qd : d = addM dgW c.h ⟨0, [b.i, c.i], 0, 0⟩
  qe : e = addM dgW d.h ⟨0, [c.i, b.i], 0, 0⟩
  vA : Hist.okC a.h = 0
  vB : Hist.okC b.h = 0
  vC : Hist.okC c.h = 0
  vD : Hist.okC d.h = 0
  vE : Hist.okC e.h = 0
  ia : a.i = wordsW [0, 1, 0]
  ee : e.e = 0
  el : e.h.length = 5
  r1 : ancS e.h d.i = ([a.i, b.i, c.i, d.i], 0)
  r2 : basS e.h b.i c.i = ([a.i], 0)
  r3 : basS e.h d.i e.i = ([b.i, c.i], 0)
  r4 : betS e.h b.i d.i = ([c.i, d.i], 0)
  r5 : headsS e.h = [d.i, e.i]
  r6 : isA e.h a.i e.i = true
  r7 : isA e.h d.i e.i = false
  r8 : idx e.h c.i = 2
  r9 : idx e.h 0 = -1
  hv : Hv a.h ∧ Hv b.h ∧ Hv c.h ∧ Hv d.h ∧ Hv e.h
theorem exs : ∃ a b c d e, Exs a b c d e := by
  refine ⟨⟨[⟨7102816951908754029, [], 1, 0⟩], 7102816951908754029, 0⟩, ⟨[⟨7102816951908754029, [], 1, 0⟩, ⟨3599742117371313335, [7102816951908754029], 2, 0⟩], 3599742117371313335, 0⟩, ⟨[⟨7102816951908754029, [], 1, 0⟩, ⟨3599742117371313335, [7102816951908754029], 2, 0⟩, ⟨14616635888231823118, [7102816951908754029], 3, 0⟩], 14616635888231823118, 0⟩, ⟨[⟨7102816951908754029, [], 1, 0⟩, ⟨3599742117371313335, [7102816951908754029], 2, 0⟩, ⟨14616635888231823118, [7102816951908754029], 3, 0⟩, ⟨17651063151834086378, [3599742117371313335, 14616635888231823118], 0, 0⟩], 17651063151834086378, 0⟩, ⟨[⟨7102816951908754029, [], 1, 0⟩, ⟨3599742117371313335, [7102816951908754029], 2, 0⟩, ⟨14616635888231823118, [7102816951908754029], 3, 0⟩, ⟨17651063151834086378, [3599742117371313335, 14616635888231823118], 0, 0⟩, ⟨14598032095572438518, [14616635888231823118, 3599742117371313335], 0, 0⟩], 14598032095572438518, 0⟩, ?_⟩
  exact {
    qa := by rw [dgW_eq]; kernel_rfl
    qb := by rw [dgW_eq]; kernel_rfl
    qc := by rw [dgW_eq]; kernel_rfl
    qd := by rw [dgW_eq]; kernel_rfl
    qe := by rw [dgW_eq]; kernel_rfl
    vA := okC_eq (by kernel_rfl)
    vB := okC_eq (by kernel_rfl)
    vC := okC_eq (by kernel_rfl)
    vD := okC_eq (by kernel_rfl)
    vE := okC_eq (by kernel_rfl)
    ia := by rw [wordsW_eq]; kernel_rfl
    ee := rfl
    el := rfl
    r1 := by kernel_rfl
    r2 := by kernel_rfl
    r3 := by kernel_rfl
    r4 := by kernel_rfl
    r5 := by kernel_rfl
    r6 := by kernel_rfl
    r7 := by kernel_rfl
    r8 := by kernel_rfl
    r9 := by kernel_rfl
    hv := by refine ⟨⟨?_, ?_⟩, ⟨?_, ?_⟩, ⟨?_, ?_⟩, ⟨?_, ?_⟩, ⟨?_, ?_⟩⟩ <;> simp }

def ExS : Vc.Spec where
  α := Unit
  args _ := []
  pre _ := True
  res _ := .bc true
theorem Ex_ok : SpecOk (PP ()) 9 ExS := by
  refine spec_of_vc (lv := 2) ctx22_ok ctx22_inl (fnOk_of Try.func9 (by kernel_rfl)) (by kernel_rfl) (fun a => by simp [ExS, LFL, LF, cU64, cCm, Cm.cells]) (fun a => by simp [ExS, LFL, LF, cU64, cCm, Cm.cells]) ?_
  intro x hx
  obtain ⟨a, b, c, d, e, E⟩ := exs
  have hva := E.hv.1
  have hvb := E.hv.2.1
  have hvc := E.hv.2.2.1
  have hvd := E.hv.2.2.2.1
  have hve := E.hv.2.2.2.2
  refine ⟨?_⟩
  cbv
  refine ⟨⟨[], ⟨0, [], 1, 0⟩⟩, ⟨by ((repeat' first | exact LeL.nil | exact Le.refl _ | refine LeL.cons ?_ ?_ | exact Le.ic rfl | exact Le.bc rfl | exact Le.i rfl | exact Le.b rfl | exact Le.sl rfl | exact Le.mp rfl | exact Le.csl rfl | exact Le.cslsl rfl | exact Le.nils rfl (fun _ => ⟨trivial, trivial⟩) | refine Le.lst rfl (fun _ _ => rfl) (fun _ => ⟨trivial, trivial⟩) ?_ | refine Le.lst rfl (fun _ _ => rfl) (fun _ => ⟨fun _ => ⟨trivial, trivial⟩, trivial⟩) ?_ | exact Le.nils rfl (fun _ => ⟨fun _ => ⟨trivial, trivial⟩, trivial⟩) | exact Le.nils rfl (fun x => (cCm_ok x).1) | refine Le.lst rfl (fun _ _ => rfl) (fun x => (cCm_ok x).1) ?_ | refine Le.agg ?_ | refine Le.tup ?_ | refine Le.fn ?_ ?_ | refine Le.spt ?_ | exact Le.any _)), ⟨⟨by simp, by simp⟩, by simp⟩⟩, ?_⟩
  cbv
  refine ⟨a.h, ⟨.cons (.sl (by rw [E.qa])) .nil, hva⟩, ?_⟩
  cbv
  refine ⟨fun h => ?_, fun h => ?_⟩
  · exfalso
    have h : (!eqB (okC a.h) 0) = true := h.out
    rw [E.vA] at h
    cases h
  cbv
  refine ⟨⟨a.h, ⟨0, [a.i], 2, 0⟩⟩, ⟨.cons (.sl (by rw [E.qa])) (.cons (.agg (.cons (.ic rfl) (.cons (.lst rfl (fun _ _ => rfl) (fun y => (cU64_ok y).1) (.cons (.i (by rw [E.qa])) .nil)) (.cons (.ic rfl) (.cons (.ic rfl) .nil))))) .nil), ⟨hva.hs, by simp⟩, rfl⟩, ?_⟩
  cbv
  refine ⟨b.h, ⟨.cons (.sl (by rw [E.qb])) .nil, hvb⟩, ?_⟩
  cbv
  refine ⟨fun h => ?_, fun h => ?_⟩
  · exfalso
    have h : (!eqB (okC b.h) 0) = true := h.out
    rw [E.vB] at h
    cases h
  cbv
  refine ⟨⟨b.h, ⟨0, [a.i], 3, 0⟩⟩, ⟨.cons (.sl (by rw [E.qb])) (.cons (.agg (.cons (.ic rfl) (.cons (.lst rfl (fun _ _ => rfl) (fun y => (cU64_ok y).1) (.cons (.i (by rw [E.qa])) .nil)) (.cons (.ic rfl) (.cons (.ic rfl) .nil))))) .nil), ⟨hvb.hs, by simp⟩, rfl⟩, ?_⟩
  cbv
  refine ⟨c.h, ⟨.cons (.sl (by rw [E.qc])) .nil, hvc⟩, ?_⟩
  cbv
  refine ⟨fun h => ?_, fun h => ?_⟩
  · exfalso
    have h : (!eqB (okC c.h) 0) = true := h.out
    rw [E.vC] at h
    cases h
  cbv
  refine ⟨⟨c.h, ⟨0, [b.i, c.i], 0, 0⟩⟩, ⟨.cons (.sl (by rw [E.qc])) (.cons (.agg (.cons (.ic rfl) (.cons (.lst rfl (fun _ _ => rfl) (fun y => (cU64_ok y).1) (.cons (.i (by rw [E.qb])) (.cons (.i (by rw [E.qc])) .nil))) (.cons (.ic rfl) (.cons (.ic rfl) .nil))))) .nil), ⟨hvc.hs, by simp⟩, rfl⟩, ?_⟩
  cbv
  refine ⟨d.h, ⟨.cons (.sl (by rw [E.qd])) .nil, hvd⟩, ?_⟩
  cbv
  refine ⟨fun h => ?_, fun h => ?_⟩
  · exfalso
    have h : (!eqB (okC d.h) 0) = true := h.out
    rw [E.vD] at h
    cases h
  cbv
  refine ⟨⟨d.h, ⟨0, [c.i, b.i], 0, 0⟩⟩, ⟨.cons (.sl (by rw [E.qd])) (.cons (.agg (.cons (.ic rfl) (.cons (.lst rfl (fun _ _ => rfl) (fun y => (cU64_ok y).1) (.cons (.i (by rw [E.qc])) (.cons (.i (by rw [E.qb])) .nil))) (.cons (.ic rfl) (.cons (.ic rfl) .nil))))) .nil), ⟨hvd.hs, by simp⟩, rfl⟩, ?_⟩
  cbv
  refine ⟨e.h, ⟨.cons (.sl (by rw [E.qe])) .nil, hve⟩, ?_⟩
  cbv
  refine ⟨fun h => ?_, fun h => ?_⟩
  · exfalso
    have h : (!eqB (okC e.h) 0) = true := h.out
    rw [E.vE] at h
    cases h
  cbv
  have gia : (!eqB a.i (wordsW [0, 1, 0])) = false := by rw [E.ia]; simp [eqB]
  have gee : (!eqB e.e 0) = false := by rw [E.ee]; rfl
  have gel : (!eqB (e.h.length : Int) 5) = false := by rw [E.el]; rfl
  have gvE : (!eqB (okC e.h) 0) = false := by rw [E.vE]; rfl
  refine ⟨[0, 1, 0], ⟨.cons (.lst rfl (fun _ _ => rfl) (fun y => (cInt_ok y).1) (.cons (.ic rfl) (.cons (.ic rfl) (.cons (.ic rfl) .nil)))) .nil, by show (3 : Nat) < _; omega, rfl⟩, ?_⟩
  cbv
  refine ⟨fun h => ?_, fun h => ?_⟩
  · cbv
    exfalso
    have h : (!eqB (addM dgW [] ⟨0, [], 1, 0⟩).i (wordsW [0, 1, 0])) = true := h.out
    rw [← E.qa, gia] at h
    cases h
  cbv
  refine ⟨fun h => ?_, fun h => ?_⟩
  · cbv
    exfalso
    have h : (!eqB (addM dgW d.h ⟨0, [c.i, b.i], 0, 0⟩).e 0) = true := h.out
    rw [← E.qe, gee] at h
    cases h
  cbv
  refine ⟨fun h => ?_, fun h => ?_⟩
  · cbv
    exfalso
    have h : (!eqB ((addM dgW d.h ⟨0, [c.i, b.i], 0, 0⟩).h.length : Int) 5) = true := h.out
    rw [← E.qe, gel] at h
    cases h
  cbv
  refine ⟨e.h, ⟨.cons (.sl (by rw [E.qe])) .nil, hve⟩, ?_⟩
  cbv
  refine ⟨fun h => ?_, fun h => ?_⟩
  · cbv
    exfalso
    have h : (!eqB (okC e.h) 0) = true := h.out
    rw [gvE] at h
    cases h
  cbv
  refine ⟨⟨e.h, d.i⟩, ⟨.cons (.sl (by rw [E.qe])) (.cons (.i (by rw [E.qd])) .nil), hve.hs⟩, ?_⟩
  cbv
  refine ⟨⟨⟨[a.i, b.i, c.i, d.i], 0⟩, ⟨[a.i, b.i, c.i, d.i], 0⟩⟩, ⟨.cons (.agg (.cons (.sl (by show (ancS e.h d.i).1 = _; rw [E.r1])) (.cons (.i (by show (ancS e.h d.i).2 = _; rw [E.r1])) .nil))) (.cons (.agg (.cons (.lst rfl (fun _ _ => rfl) (fun y => (cU64_ok y).1) (.cons (.i (by rw [E.qa])) (.cons (.i (by rw [E.qb])) (.cons (.i (by rw [E.qc])) (.cons (.i (by rw [E.qd])) .nil))))) (.cons (.ic rfl) .nil))) .nil), by show ([a.i, b.i, c.i, d.i] : List Int).length < _; simp, rfl⟩, ?_⟩
  cbv
  refine ⟨fun h => ?_, fun h => ?_⟩
  · exfalso
    have h : (!((0 : Int) == 0 && [a.i, b.i, c.i, d.i] == [a.i, b.i, c.i, d.i])) = true := h.out
    simp at h
  cbv
  refine ⟨⟨e.h, b.i, c.i⟩, ⟨.cons (.sl (by rw [E.qe])) (.cons (.i (by rw [E.qb])) (.cons (.i (by rw [E.qc])) .nil)), hve.hs⟩, ?_⟩
  cbv
  refine ⟨⟨⟨[a.i], 0⟩, ⟨[a.i], 0⟩⟩, ⟨.cons (.agg (.cons (.sl (by show (basS e.h b.i c.i).1 = _; rw [E.r2])) (.cons (.i (by show (basS e.h b.i c.i).2 = _; rw [E.r2])) .nil))) (.cons (.agg (.cons (.lst rfl (fun _ _ => rfl) (fun y => (cU64_ok y).1) (.cons (.i (by rw [E.qa])) .nil)) (.cons (.ic rfl) .nil))) .nil), by show ([a.i] : List Int).length < _; simp, rfl⟩, ?_⟩
  cbv
  refine ⟨fun h => ?_, fun h => ?_⟩
  rotate_left
  · cbv
    exfalso
    have h : ((0 : Int) == 0 && [a.i] == [a.i]) = false := h.out
    simp at h
  cbv
  refine ⟨⟨e.h, d.i, e.i⟩, ⟨.cons (.sl (by rw [E.qe])) (.cons (.i (by rw [E.qd])) (.cons (.i (by rw [E.qe])) .nil)), hve.hs⟩, ?_⟩
  cbv
  refine ⟨⟨⟨[b.i, c.i], 0⟩, ⟨[b.i, c.i], 0⟩⟩, ⟨.cons (.agg (.cons (.sl (by show (basS e.h d.i e.i).1 = _; rw [E.r3])) (.cons (.i (by show (basS e.h d.i e.i).2 = _; rw [E.r3])) .nil))) (.cons (.agg (.cons (.lst rfl (fun _ _ => rfl) (fun y => (cU64_ok y).1) (.cons (.i (by rw [E.qb])) (.cons (.i (by rw [E.qc])) .nil))) (.cons (.ic rfl) .nil))) .nil), by show ([b.i, c.i] : List Int).length < _; simp, rfl⟩, ?_⟩
  cbv
  refine ⟨fun h => ?_, fun h => ?_⟩
  rotate_left
  · cbv
    exfalso
    have h : ((0 : Int) == 0 && [b.i, c.i] == [b.i, c.i]) = false := h.out
    simp at h
  cbv
  refine ⟨⟨e.h, b.i, d.i⟩, ⟨.cons (.sl (by rw [E.qe])) (.cons (.i (by rw [E.qb])) (.cons (.i (by rw [E.qd])) .nil)), hve.hs⟩, ?_⟩
  cbv
  refine ⟨⟨⟨[c.i, d.i], 0⟩, ⟨[c.i, d.i], 0⟩⟩, ⟨.cons (.agg (.cons (.sl (by show (betS e.h b.i d.i).1 = _; rw [E.r4])) (.cons (.i (by show (betS e.h b.i d.i).2 = _; rw [E.r4])) .nil))) (.cons (.agg (.cons (.lst rfl (fun _ _ => rfl) (fun y => (cU64_ok y).1) (.cons (.i (by rw [E.qc])) (.cons (.i (by rw [E.qd])) .nil))) (.cons (.ic rfl) .nil))) .nil), by show ([c.i, d.i] : List Int).length < _; simp, rfl⟩, ?_⟩
  cbv
  refine ⟨fun h => ?_, fun h => ?_⟩
  rotate_left
  · cbv
    exfalso
    have h : ((0 : Int) == 0 && [c.i, d.i] == [c.i, d.i]) = false := h.out
    simp at h
  cbv
  refine ⟨e.h, ⟨.cons (.sl (by rw [E.qe])) .nil, hve.hs⟩, ?_⟩
  cbv
  refine ⟨⟨[d.i, e.i], [d.i, e.i]⟩, ⟨.cons (.sl E.r5) (.cons (.lst rfl (fun _ _ => rfl) (fun y => (cU64_ok y).1) (.cons (.i (by rw [E.qd])) (.cons (.i (by rw [E.qe])) .nil))) .nil), by show ([d.i, e.i] : List Int).length < _; simp, rfl⟩, ?_⟩
  cbv
  refine ⟨fun h => ?_, fun h => ?_⟩
  rotate_left
  · cbv
    exfalso
    have h : ([d.i, e.i] == [d.i, e.i]) = false := h.out
    simp at h
  cbv
  refine ⟨⟨e.h, a.i, e.i⟩, ⟨.cons (.sl (by rw [E.qe])) (.cons (.i (by rw [E.qa])) (.cons (.i (by rw [E.qe])) .nil)), hve.hs⟩, ?_⟩
  cbv
  refine ⟨fun h => ?_, fun h => ?_⟩
  rotate_left
  · cbv
    exfalso
    have h : isA e.h a.i e.i = false := h.out
    rw [E.r6] at h
    cases h
  cbv
  refine ⟨⟨e.h, d.i, e.i⟩, ⟨.cons (.sl (by rw [E.qe])) (.cons (.i (by rw [E.qd])) (.cons (.i (by rw [E.qe])) .nil)), hve.hs⟩, ?_⟩
  cbv
  refine ⟨fun h => ?_, fun h => ?_⟩
  rotate_left
  · cbv
    exfalso
    have h : (!isA e.h d.i e.i) = false := h.out
    rw [E.r7] at h
    cases h
  cbv
  refine ⟨⟨e.h, c.i⟩, ⟨.cons (.sl (by rw [E.qe])) (.cons (.i (by rw [E.qc])) .nil), by show e.h.length < _; rw [E.el]; omega⟩, ?_⟩
  cbv
  refine ⟨fun h => ?_, fun h => ?_⟩
  rotate_left
  · cbv
    exfalso
    have h : eqB (idx e.h c.i) 2 = false := h.out
    rw [E.r8] at h
    cases h
  cbv
  refine ⟨⟨e.h, 0⟩, ⟨.cons (.sl (by rw [E.qe])) (.cons (.ic rfl) .nil), by show e.h.length < _; rw [E.el]; omega⟩, ?_⟩
  cbv
  exact ⟨.b_bc (by show eqB (idx e.h 0) (-1) = true; rw [E.r9]; rfl)⟩

end Go.Proofs.Hist
