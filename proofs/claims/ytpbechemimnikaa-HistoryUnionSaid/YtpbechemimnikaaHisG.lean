/-
  The histories' functions: additions
-/
import Derived.Test.YtpbechemimnikaaHisF
set_option linter.unusedVariables false
set_option linter.unusedSimpArgs false
set_option maxRecDepth 10000
set_option maxHeartbeats 2000000
namespace Go.Proofs.Hist
open Go Go.Vc

noncomputable def sp12 : List (Nat × Vc.Spec) := (22, ValidS) :: sp10
theorem sp12_ok : All (fun f S => SpecOk (PP ()) f S) sp12 := ⟨Valid_ok, sp10_ok⟩
noncomputable def ctx12 : Ctx := { tt := tt, el := el, sp := fun f => tab sp12 f, inl := fun f => tab inl2 f }
theorem ctx12_ok : ctx12.Ok (PP ()) := ⟨tt_ok, el_ok ctx12 rfl, tab_all sp12_ok, fun f fn h => (tab_all inl2_ok f fn h).1, mixed⟩
theorem ctx12_inl : InlOk ctx12 := fun f fn h => (tab_all inl2_ok f fn h).2

structure LH where
  l : List Int
  h : List Cm

def UnkHS : Vc.Spec where
  α := LH
  args x := [.sl 1 cU64 (fun _ => x.l), .fn (.func 58) [] [.spt [.sl 4 cCm (fun _ => x.h)] 0]]
  pre x := x.l.length < 2305843009213693952 ∧ x.h.length < 2305843009213693952
  res x := .i .i64 (fun _ => fi (fun p => !has x.h p) x.l)
theorem UnkH_ok : SpecOk (PP ()) 61 UnkHS := by
  refine spec_of_vc (lv := 2) ctx12_ok ctx12_inl (fnOk_of Try.func61 (by kernel_rfl)) (by kernel_rfl) (fun a => by simp [UnkHS, LFL, LF, cU64, cCm, Cm.cells]) (fun a => by simp [UnkHS, LFL, LF, cU64, cCm, Cm.cells]) ?_
  intro x hx
  obtain ⟨hx, hpre⟩ : x.l.length < 2305843009213693952 ∧ x.h.length < 2305843009213693952 := hx
  refine ⟨?_⟩
  cbv
  refine Sat.loop ctx12_ok ctx12_inl (lv := 2) (by kernel_rfl) 0 [] (fun i : Nat => ⟨[.sl 1 cU64 (fun _ => x.l), .fn (.func 58) [] [.spt [.sl 4 cCm (fun _ => x.h)] 0], .any, .any, .any, .any, .any, .i .i64 (fun _ => (x.l.length : Int)), .i .i64 (fun _ => (i : Int))] ++ anys 10, []⟩)
    (fun i => i ≤ x.l.length ∧ (x.l.take i).any (fun p => !has x.h p) = false) (fun i => x.l.length - i) 0 (by ((try cbv) <;> (repeat' (first | with_reducible exact trivial | with_reducible refine And.intro ?_ ?_)) <;> (try first | exact SlotLe.refl _ | exact SlotLe.dyn rfl | exact SlotLe.map rfl | exact SlotLe.iter rfl rfl (.inl rfl) | exact SlotLe.iter rfl rfl (.inr rfl) | refine SlotLe.fix ?_ | refine SlotLe.dyn ?_) <;> ((repeat' first | exact LeL.nil | exact Le.refl _ | refine LeL.cons ?_ ?_ | exact Le.ic rfl | exact Le.bc rfl | exact Le.i rfl | exact Le.b rfl | exact Le.sl rfl | exact Le.mp rfl | exact Le.csl rfl | exact Le.cslsl rfl | exact Le.nils rfl (fun _ => ⟨trivial, trivial⟩) | refine Le.lst rfl (fun _ _ => rfl) (fun _ => ⟨trivial, trivial⟩) ?_ | refine Le.lst rfl (fun _ _ => rfl) (fun _ => ⟨fun _ => ⟨trivial, trivial⟩, trivial⟩) ?_ | exact Le.nils rfl (fun _ => ⟨fun _ => ⟨trivial, trivial⟩, trivial⟩) | exact Le.nils rfl (fun x => (cCm_ok x).1) | refine Le.lst rfl (fun _ _ => rfl) (fun x => (cCm_ok x).1) ?_ | refine Le.agg ?_ | refine Le.tup ?_ | refine Le.fn ?_ ?_ | refine Le.spt ?_ | exact Le.any _)))) (by ((try cbv) <;> (repeat' (first | with_reducible exact trivial | with_reducible refine And.intro ?_ ?_)) <;> (try first | exact SlotLe.refl _ | exact SlotLe.dyn rfl | exact SlotLe.map rfl | exact SlotLe.iter rfl rfl (.inl rfl) | exact SlotLe.iter rfl rfl (.inr rfl) | refine SlotLe.fix ?_ | refine SlotLe.dyn ?_) <;> ((repeat' first | exact LeL.nil | exact Le.refl _ | refine LeL.cons ?_ ?_ | exact Le.ic rfl | exact Le.bc rfl | exact Le.i rfl | exact Le.b rfl | exact Le.sl rfl | exact Le.mp rfl | exact Le.csl rfl | exact Le.cslsl rfl | exact Le.nils rfl (fun _ => ⟨trivial, trivial⟩) | refine Le.lst rfl (fun _ _ => rfl) (fun _ => ⟨trivial, trivial⟩) ?_ | refine Le.lst rfl (fun _ _ => rfl) (fun _ => ⟨fun _ => ⟨trivial, trivial⟩, trivial⟩) ?_ | exact Le.nils rfl (fun _ => ⟨fun _ => ⟨trivial, trivial⟩, trivial⟩) | exact Le.nils rfl (fun x => (cCm_ok x).1) | refine Le.lst rfl (fun _ _ => rfl) (fun x => (cCm_ok x).1) ?_ | refine Le.agg ?_ | refine Le.tup ?_ | refine Le.fn ?_ ?_ | refine Le.spt ?_ | exact Le.any _)))) ⟨by omega, by simp⟩ ?_
  rintro i ⟨hi, ht⟩
  cbv
  refine ⟨fun h2 => ?_, fun h2 => ?_⟩
  · have h2 := h2.out
    have hlt : i < x.l.length := by simp [ltB] at h2; ((try simp only [Go.Vc.natc] at *); omega)
    obtain ⟨va, ha⟩ : ∃ v, x.l[i]? = some v := ⟨_, List.getElem?_eq_getElem hlt⟩
    have f1 : (fun p => !has x.h p) va = true → fi (fun p => !has x.h p) x.l = (i : Int) := fi_at ht ha
    have f2 : (fun p => !has x.h p) va = false → (x.l.take (i + 1)).any (fun p => !has x.h p) = false := any_take ht ha
    cbv
    refine ⟨va, ⟨Int.natCast_nonneg i, ha⟩, ?_⟩
    cbv
    refine ⟨⟨x.h, va⟩, ⟨by ((repeat' first | exact LeL.nil | exact Le.refl _ | refine LeL.cons ?_ ?_ | exact Le.ic rfl | exact Le.bc rfl | exact Le.i rfl | exact Le.b rfl | exact Le.sl rfl | exact Le.mp rfl | exact Le.csl rfl | exact Le.cslsl rfl | exact Le.nils rfl (fun _ => ⟨trivial, trivial⟩) | refine Le.lst rfl (fun _ _ => rfl) (fun _ => ⟨trivial, trivial⟩) ?_ | refine Le.lst rfl (fun _ _ => rfl) (fun _ => ⟨fun _ => ⟨trivial, trivial⟩, trivial⟩) ?_ | exact Le.nils rfl (fun _ => ⟨fun _ => ⟨trivial, trivial⟩, trivial⟩) | exact Le.nils rfl (fun x => (cCm_ok x).1) | refine Le.lst rfl (fun _ _ => rfl) (fun x => (cCm_ok x).1) ?_ | refine Le.agg ?_ | refine Le.tup ?_ | refine Le.fn ?_ ?_ | refine Le.spt ?_ | exact Le.any _)), hpre⟩, ?_⟩
    cbv
    refine ⟨fun h3 => ?_, fun h3 => ?_⟩
    · have hp : (!has x.h va) = true := by have h3 : idx x.h va < 0 := of_decide_eq_true h3.out; rw [(idx_neg _ _).1 h3]; rfl
      have hr := f1 hp
      cbv
      exact ⟨.i hr.symm⟩
    · have hp : (!has x.h va) = false := by
        have h3 : ¬ idx x.h va < 0 := of_decide_eq_false h3.out
        cases q : has x.h va with
        | true => rfl
        | false => exact absurd ((idx_neg _ _).2 q) h3
      have hn := f2 hp
      cbv
      exact ⟨i + 1, by ((try cbv) <;> (repeat' (first | with_reducible exact trivial | with_reducible refine And.intro ?_ ?_)) <;> (try first | exact SlotLe.refl _ | exact SlotLe.dyn rfl | exact SlotLe.map rfl | exact SlotLe.iter rfl rfl (.inl rfl) | exact SlotLe.iter rfl rfl (.inr rfl) | refine SlotLe.fix ?_ | refine SlotLe.dyn ?_) <;> ((repeat' first | exact LeL.nil | exact Le.refl _ | refine LeL.cons ?_ ?_ | exact Le.ic rfl | exact Le.bc rfl | exact Le.i rfl | exact Le.b rfl | exact Le.sl rfl | exact Le.mp rfl | exact Le.csl rfl | exact Le.cslsl rfl | exact Le.nils rfl (fun _ => ⟨trivial, trivial⟩) | refine Le.lst rfl (fun _ _ => rfl) (fun _ => ⟨trivial, trivial⟩) ?_ | refine Le.lst rfl (fun _ _ => rfl) (fun _ => ⟨fun _ => ⟨trivial, trivial⟩, trivial⟩) ?_ | exact Le.nils rfl (fun _ => ⟨fun _ => ⟨trivial, trivial⟩, trivial⟩) | exact Le.nils rfl (fun x => (cCm_ok x).1) | refine Le.lst rfl (fun _ _ => rfl) (fun x => (cCm_ok x).1) ?_ | refine Le.agg ?_ | refine Le.tup ?_ | refine Le.fn ?_ ?_ | refine Le.spt ?_ | exact Le.any _))) <;> (refine .i ?_; show IntKind.i64.wrap ((i : Int) + 1) = ((i + 1 : Nat) : Int); rw [w64 (by omega) (by omega)]; rfl), by ((try cbv) <;> (repeat' (first | with_reducible exact trivial | with_reducible refine And.intro ?_ ?_)) <;> (try first | exact SlotLe.refl _ | exact SlotLe.dyn rfl | exact SlotLe.map rfl | exact SlotLe.iter rfl rfl (.inl rfl) | exact SlotLe.iter rfl rfl (.inr rfl) | refine SlotLe.fix ?_ | refine SlotLe.dyn ?_) <;> ((repeat' first | exact LeL.nil | exact Le.refl _ | refine LeL.cons ?_ ?_ | exact Le.ic rfl | exact Le.bc rfl | exact Le.i rfl | exact Le.b rfl | exact Le.sl rfl | exact Le.mp rfl | exact Le.csl rfl | exact Le.cslsl rfl | exact Le.nils rfl (fun _ => ⟨trivial, trivial⟩) | refine Le.lst rfl (fun _ _ => rfl) (fun _ => ⟨trivial, trivial⟩) ?_ | refine Le.lst rfl (fun _ _ => rfl) (fun _ => ⟨fun _ => ⟨trivial, trivial⟩, trivial⟩) ?_ | exact Le.nils rfl (fun _ => ⟨fun _ => ⟨trivial, trivial⟩, trivial⟩) | exact Le.nils rfl (fun x => (cCm_ok x).1) | refine Le.lst rfl (fun _ _ => rfl) (fun x => (cCm_ok x).1) ?_ | refine Le.agg ?_ | refine Le.tup ?_ | refine Le.fn ?_ ?_ | refine Le.spt ?_ | exact Le.any _))), ⟨⟨hlt, hn⟩, by show x.l.length - (i + 1) < x.l.length - i; omega⟩⟩
  · have h2 := h2.out
    have hlt : ¬ i < x.l.length := by simp [ltB] at h2; ((try simp only [Go.Vc.natc] at *); omega)
    rw [List.take_of_length_le (by omega)] at ht
    have hr := fi_none ht
    cbv
    exact ⟨.ic hr.symm⟩

def ClipS : Vc.Spec where
  α := List Cm
  args x := [.sl 4 cCm (fun _ => x)]
  pre x := True
  res x := .csl 4 cCm (fun _ => x)
theorem Clip_ok : SpecOk (PP ()) 59 ClipS := by
  refine spec_of_vc (lv := 2) ctx12_ok ctx12_inl (fnOk_of Try.func59 (by kernel_rfl)) (by kernel_rfl) (fun a => by simp [ClipS, LFL, LF, cU64, cCm, Cm.cells]) (fun a => by simp [ClipS, LFL, LF, cU64, cCm, Cm.cells]) ?_
  intro x hx
  change List Cm at x
  refine ⟨?_⟩
  cbv
  exact ⟨⟨rfl, rfl⟩, ⟨.csl rfl⟩⟩

noncomputable def sp13 : List (Nat × Vc.Spec) := (61, UnkHS) :: (59, ClipS) :: sp12
theorem sp13_ok : All (fun f S => SpecOk (PP ()) f S) sp13 := ⟨UnkH_ok, Clip_ok, sp12_ok⟩
noncomputable def ctx13 : Ctx := { tt := tt, el := el, sp := fun f => tab sp13 f, inl := fun f => tab inl2 f }
theorem ctx13_ok : ctx13.Ok (PP ()) := ⟨tt_ok, el_ok ctx13 rfl, tab_all sp13_ok, fun f fn h => (tab_all inl2_ok f fn h).1, mixed⟩
theorem ctx13_inl : InlOk ctx13 := fun f fn h => (tab_all inl2_ok f fn h).2

noncomputable def ctx13c : Ctx := { ctx13 with cut := fun r => Nat.beq r 11 }
theorem ctx13c_ok : ctx13c.Ok (PP ()) := ⟨tt_ok, el_ok ctx13c rfl, tab_all sp13_ok, fun f fn h => (tab_all inl2_ok f fn h).1, mixed⟩
theorem ctx13c_inl : InlOk ctx13c := fun f fn h => (tab_all inl2_ok f fn h).2
noncomputable def AddTS : Vc.Spec where
  α := HC
  args x := [.sl 4 cCm (fun _ => x.h), .agg (Cm.cells fun _ => x.c)]
  pre x := HCok x
  res x := .tup (Ad.cells fun _ => addM dgW x.h x.c)
theorem Add_ok : SpecOk (PP ()) 36 AddTS := by
  refine spec_of_vc (lv := 3) ctx13c_ok ctx13c_inl (fnOk_of Try.func36 (by kernel_rfl)) (by kernel_rfl) (fun a => by simp [AddTS, LFL, LF, cU64, cCm, Cm.cells, Ad.cells]) (fun a => by simp [AddTS, LFL, LF, cU64, cCm, Cm.cells, Ad.cells]) ?_
  intro x hx
  have H : Hs x.h := hx.h
  have hh := H.n
  have hc : x.c.par.length ≤ 1000000 := hx.c
  have unk := fi_any (fun p => !has x.h p) x.c.par
  refine ⟨?_⟩
  cbv
  refine ⟨x.c.par, ⟨by ((repeat' first | exact LeL.nil | exact Le.refl _ | refine LeL.cons ?_ ?_ | exact Le.ic rfl | exact Le.bc rfl | exact Le.i rfl | exact Le.b rfl | exact Le.sl rfl | exact Le.mp rfl | exact Le.csl rfl | exact Le.cslsl rfl | exact Le.nils rfl (fun _ => ⟨trivial, trivial⟩) | refine Le.lst rfl (fun _ _ => rfl) (fun _ => ⟨trivial, trivial⟩) ?_ | refine Le.lst rfl (fun _ _ => rfl) (fun _ => ⟨fun _ => ⟨trivial, trivial⟩, trivial⟩) ?_ | exact Le.nils rfl (fun _ => ⟨fun _ => ⟨trivial, trivial⟩, trivial⟩) | exact Le.nils rfl (fun x => (cCm_ok x).1) | refine Le.lst rfl (fun _ _ => rfl) (fun x => (cCm_ok x).1) ?_ | refine Le.agg ?_ | refine Le.tup ?_ | refine Le.fn ?_ ?_ | refine Le.spt ?_ | exact Le.any _)), trivial⟩, ?_⟩
  cbv
  refine ⟨fun h => ?_, fun h => ?_⟩
  · have h := h.out
    have e := addM_arg (h := x.h) (c := x.c) (by simpa using h)
    cbv
    refine ⟨.tup ?_⟩
    rw [e]
    ((repeat' first | exact LeL.nil | exact Le.refl _ | refine LeL.cons ?_ ?_ | exact Le.ic rfl | exact Le.bc rfl | exact Le.i rfl | exact Le.b rfl | exact Le.sl rfl | exact Le.mp rfl | exact Le.csl rfl | exact Le.cslsl rfl | exact Le.nils rfl (fun _ => ⟨trivial, trivial⟩) | refine Le.lst rfl (fun _ _ => rfl) (fun _ => ⟨trivial, trivial⟩) ?_ | refine Le.lst rfl (fun _ _ => rfl) (fun _ => ⟨fun _ => ⟨trivial, trivial⟩, trivial⟩) ?_ | exact Le.nils rfl (fun _ => ⟨fun _ => ⟨trivial, trivial⟩, trivial⟩) | exact Le.nils rfl (fun x => (cCm_ok x).1) | refine Le.lst rfl (fun _ _ => rfl) (fun x => (cCm_ok x).1) ?_ | refine Le.agg ?_ | refine Le.tup ?_ | refine Le.fn ?_ ?_ | refine Le.spt ?_ | exact Le.any _))
  · have h := h.out
    have hf : fine x.c.par = true := by simpa using h
    cbv
    refine ⟨⟨x.c.par, x.h⟩, ⟨by ((repeat' first | exact LeL.nil | exact Le.refl _ | refine LeL.cons ?_ ?_ | exact Le.ic rfl | exact Le.bc rfl | exact Le.i rfl | exact Le.b rfl | exact Le.sl rfl | exact Le.mp rfl | exact Le.csl rfl | exact Le.cslsl rfl | exact Le.nils rfl (fun _ => ⟨trivial, trivial⟩) | refine Le.lst rfl (fun _ _ => rfl) (fun _ => ⟨trivial, trivial⟩) ?_ | refine Le.lst rfl (fun _ _ => rfl) (fun _ => ⟨fun _ => ⟨trivial, trivial⟩, trivial⟩) ?_ | exact Le.nils rfl (fun _ => ⟨fun _ => ⟨trivial, trivial⟩, trivial⟩) | exact Le.nils rfl (fun x => (cCm_ok x).1) | refine Le.lst rfl (fun _ _ => rfl) (fun x => (cCm_ok x).1) ?_ | refine Le.agg ?_ | refine Le.tup ?_ | refine Le.fn ?_ ?_ | refine Le.spt ?_ | exact Le.any _)), ⟨by show x.c.par.length < _; omega, by show x.h.length < _; omega⟩, rfl⟩, ?_⟩
    cbv
    refine ⟨fun h => ?_, fun h => ?_⟩
    · have h : leB 0 (fi (fun p => !has x.h p) x.c.par) = true := h.out
      rw [unk] at h
      have hk : x.c.par.all (has x.h) = false := by
        cases q : x.c.par.all (has x.h) with
        | false => rfl
        | true =>
          rw [List.any_eq_true] at h
          obtain ⟨p, h1, h2⟩ := h
          rw [List.all_eq_true.1 q p h1] at h2
          cases h2
      have e := addM_none (h := x.h) hf hk
      cbv
      refine ⟨.tup ?_⟩
      rw [e]
      ((repeat' first | exact LeL.nil | exact Le.refl _ | refine LeL.cons ?_ ?_ | exact Le.ic rfl | exact Le.bc rfl | exact Le.i rfl | exact Le.b rfl | exact Le.sl rfl | exact Le.mp rfl | exact Le.csl rfl | exact Le.cslsl rfl | exact Le.nils rfl (fun _ => ⟨trivial, trivial⟩) | refine Le.lst rfl (fun _ _ => rfl) (fun _ => ⟨trivial, trivial⟩) ?_ | refine Le.lst rfl (fun _ _ => rfl) (fun _ => ⟨fun _ => ⟨trivial, trivial⟩, trivial⟩) ?_ | exact Le.nils rfl (fun _ => ⟨fun _ => ⟨trivial, trivial⟩, trivial⟩) | exact Le.nils rfl (fun x => (cCm_ok x).1) | refine Le.lst rfl (fun _ _ => rfl) (fun x => (cCm_ok x).1) ?_ | refine Le.agg ?_ | refine Le.tup ?_ | refine Le.fn ?_ ?_ | refine Le.spt ?_ | exact Le.any _))
    · have h : leB 0 (fi (fun p => !has x.h p) x.c.par) = false := h.out
      rw [unk] at h
      have hk : x.c.par.all (has x.h) = true := by
        rw [List.all_eq_true]
        intro p hp
        have := List.any_eq_false.1 h p hp
        simpa using this
      obtain ⟨d, hd⟩ : ∃ d, d = dgW x.c := ⟨_, rfl⟩
      cbv
      refine ⟨x.c, ⟨by ((repeat' first | exact LeL.nil | exact Le.refl _ | refine LeL.cons ?_ ?_ | exact Le.ic rfl | exact Le.bc rfl | exact Le.i rfl | exact Le.b rfl | exact Le.sl rfl | exact Le.mp rfl | exact Le.csl rfl | exact Le.cslsl rfl | exact Le.nils rfl (fun _ => ⟨trivial, trivial⟩) | refine Le.lst rfl (fun _ _ => rfl) (fun _ => ⟨trivial, trivial⟩) ?_ | refine Le.lst rfl (fun _ _ => rfl) (fun _ => ⟨fun _ => ⟨trivial, trivial⟩, trivial⟩) ?_ | exact Le.nils rfl (fun _ => ⟨fun _ => ⟨trivial, trivial⟩, trivial⟩) | exact Le.nils rfl (fun x => (cCm_ok x).1) | refine Le.lst rfl (fun _ _ => rfl) (fun x => (cCm_ok x).1) ?_ | refine Le.agg ?_ | refine Le.tup ?_ | refine Le.fn ?_ ?_ | refine Le.spt ?_ | exact Le.any _)), hc⟩, ?_⟩
      cbv
      refine ⟨⟨x.h, d⟩, ⟨by rw [hd]; ((repeat' first | exact LeL.nil | exact Le.refl _ | refine LeL.cons ?_ ?_ | exact Le.ic rfl | exact Le.bc rfl | exact Le.i rfl | exact Le.b rfl | exact Le.sl rfl | exact Le.mp rfl | exact Le.csl rfl | exact Le.cslsl rfl | exact Le.nils rfl (fun _ => ⟨trivial, trivial⟩) | refine Le.lst rfl (fun _ _ => rfl) (fun _ => ⟨trivial, trivial⟩) ?_ | refine Le.lst rfl (fun _ _ => rfl) (fun _ => ⟨fun _ => ⟨trivial, trivial⟩, trivial⟩) ?_ | exact Le.nils rfl (fun _ => ⟨fun _ => ⟨trivial, trivial⟩, trivial⟩) | exact Le.nils rfl (fun x => (cCm_ok x).1) | refine Le.lst rfl (fun _ _ => rfl) (fun x => (cCm_ok x).1) ?_ | refine Le.agg ?_ | refine Le.tup ?_ | refine Le.fn ?_ ?_ | refine Le.spt ?_ | exact Le.any _)), by show x.h.length < _; omega⟩, ?_⟩
      cbv
      refine ⟨fun h => ?_, fun h => ?_⟩
      · have h := h.out
        have e2 : ¬ idx x.h d < 0 := by simpa [leB] using h
        have hq : has x.h (dgW x.c) = true := by
          cases q : has x.h d with
          | true => rw [← hd]; exact q
          | false => exact absurd ((idx_neg _ _).2 q) e2
        have e := addM_old hf hk hq
        cbv
        refine ⟨.tup ?_⟩
        rw [e]
        ((repeat' first | exact LeL.nil | exact Le.refl _ | refine LeL.cons ?_ ?_ | exact Le.ic rfl | exact Le.bc rfl | exact Le.i rfl | exact Le.b rfl | exact Le.sl rfl | exact Le.mp rfl | exact Le.csl rfl | exact Le.cslsl rfl | exact Le.nils rfl (fun _ => ⟨trivial, trivial⟩) | refine Le.lst rfl (fun _ _ => rfl) (fun _ => ⟨trivial, trivial⟩) ?_ | refine Le.lst rfl (fun _ _ => rfl) (fun _ => ⟨fun _ => ⟨trivial, trivial⟩, trivial⟩) ?_ | exact Le.nils rfl (fun _ => ⟨fun _ => ⟨trivial, trivial⟩, trivial⟩) | exact Le.nils rfl (fun x => (cCm_ok x).1) | refine Le.lst rfl (fun _ _ => rfl) (fun x => (cCm_ok x).1) ?_ | refine Le.agg ?_ | refine Le.tup ?_ | refine Le.fn ?_ ?_ | refine Le.spt ?_ | exact Le.any _))
      · have h := h.out
        have e2 : idx x.h d < 0 := by simpa [leB] using h
        have hq : has x.h (dgW x.c) = false := by rw [← hd]; exact (idx_neg _ _).1 e2
        cbv
        refine ⟨fun h => ?_, fun h => ?_⟩
        · have h := h.out
          have e := addM_big hf hk hq (by simp [leB] at h; ((try simp only [Go.Vc.natc] at *); omega))
          cbv
          refine ⟨.tup ?_⟩
          rw [e]
          ((repeat' first | exact LeL.nil | exact Le.refl _ | refine LeL.cons ?_ ?_ | exact Le.ic rfl | exact Le.bc rfl | exact Le.i rfl | exact Le.b rfl | exact Le.sl rfl | exact Le.mp rfl | exact Le.csl rfl | exact Le.cslsl rfl | exact Le.nils rfl (fun _ => ⟨trivial, trivial⟩) | refine Le.lst rfl (fun _ _ => rfl) (fun _ => ⟨trivial, trivial⟩) ?_ | refine Le.lst rfl (fun _ _ => rfl) (fun _ => ⟨fun _ => ⟨trivial, trivial⟩, trivial⟩) ?_ | exact Le.nils rfl (fun _ => ⟨fun _ => ⟨trivial, trivial⟩, trivial⟩) | exact Le.nils rfl (fun x => (cCm_ok x).1) | refine Le.lst rfl (fun _ _ => rfl) (fun x => (cCm_ok x).1) ?_ | refine Le.agg ?_ | refine Le.tup ?_ | refine Le.fn ?_ ?_ | refine Le.spt ?_ | exact Le.any _))
        · have h := h.out
          have e := addM_new hf hk hq (by simp [leB] at h; ((try simp only [Go.Vc.natc] at *); omega))
          cbv
          refine ⟨fun h => ?_, ?_⟩
          · have h : x.c.par = [] := h.out
            rw [h] at e
            cbv
            refine Sat.go ctx13_ok ctx13_inl (lv := 3) (by kernel_rfl) ?_
            cbv
            refine ⟨x.h, ⟨by ((repeat' first | exact LeL.nil | exact Le.refl _ | refine LeL.cons ?_ ?_ | exact Le.ic rfl | exact Le.bc rfl | exact Le.i rfl | exact Le.b rfl | exact Le.sl rfl | exact Le.mp rfl | exact Le.csl rfl | exact Le.cslsl rfl | exact Le.nils rfl (fun _ => ⟨trivial, trivial⟩) | refine Le.lst rfl (fun _ _ => rfl) (fun _ => ⟨trivial, trivial⟩) ?_ | refine Le.lst rfl (fun _ _ => rfl) (fun _ => ⟨fun _ => ⟨trivial, trivial⟩, trivial⟩) ?_ | exact Le.nils rfl (fun _ => ⟨fun _ => ⟨trivial, trivial⟩, trivial⟩) | exact Le.nils rfl (fun x => (cCm_ok x).1) | refine Le.lst rfl (fun _ _ => rfl) (fun x => (cCm_ok x).1) ?_ | refine Le.agg ?_ | refine Le.tup ?_ | refine Le.fn ?_ ?_ | refine Le.spt ?_ | exact Le.any _)), trivial⟩, ?_⟩
            cbv
            refine ⟨[⟨dgW x.c, [], x.c.tree, x.c.no⟩], ⟨by ((repeat' first | exact LeL.nil | exact Le.refl _ | refine LeL.cons ?_ ?_ | exact Le.ic rfl | exact Le.bc rfl | exact Le.i rfl | exact Le.b rfl | exact Le.sl rfl | exact Le.mp rfl | exact Le.csl rfl | exact Le.cslsl rfl | exact Le.nils rfl (fun _ => ⟨trivial, trivial⟩) | refine Le.lst rfl (fun _ _ => rfl) (fun _ => ⟨trivial, trivial⟩) ?_ | refine Le.lst rfl (fun _ _ => rfl) (fun _ => ⟨fun _ => ⟨trivial, trivial⟩, trivial⟩) ?_ | exact Le.nils rfl (fun _ => ⟨fun _ => ⟨trivial, trivial⟩, trivial⟩) | exact Le.nils rfl (fun x => (cCm_ok x).1) | refine Le.lst rfl (fun _ _ => rfl) (fun x => (cCm_ok x).1) ?_ | refine Le.agg ?_ | refine Le.tup ?_ | refine Le.fn ?_ ?_ | refine Le.spt ?_ | exact Le.any _)), by show (x.h.length + 1) * 48 ≤ _; omega, by show x.h.length + 1 ≤ 9223372036854775807; omega, by simp, fun z => (cCm_ok z).2⟩, ?_⟩
            cbv
            refine ⟨.tup ?_⟩
            rw [e]
            ((repeat' first | exact LeL.nil | exact Le.refl _ | refine LeL.cons ?_ ?_ | exact Le.ic rfl | exact Le.bc rfl | exact Le.i rfl | exact Le.b rfl | exact Le.sl rfl | exact Le.mp rfl | exact Le.csl rfl | exact Le.cslsl rfl | exact Le.nils rfl (fun _ => ⟨trivial, trivial⟩) | refine Le.lst rfl (fun _ _ => rfl) (fun _ => ⟨trivial, trivial⟩) ?_ | refine Le.lst rfl (fun _ _ => rfl) (fun _ => ⟨fun _ => ⟨trivial, trivial⟩, trivial⟩) ?_ | exact Le.nils rfl (fun _ => ⟨fun _ => ⟨trivial, trivial⟩, trivial⟩) | exact Le.nils rfl (fun x => (cCm_ok x).1) | refine Le.lst rfl (fun _ _ => rfl) (fun x => (cCm_ok x).1) ?_ | refine Le.agg ?_ | refine Le.tup ?_ | refine Le.fn ?_ ?_ | refine Le.spt ?_ | exact Le.any _))
          · cbv
            refine ⟨x.c.par, ⟨by ((repeat' first | exact LeL.nil | exact Le.refl _ | refine LeL.cons ?_ ?_ | exact Le.ic rfl | exact Le.bc rfl | exact Le.i rfl | exact Le.b rfl | exact Le.sl rfl | exact Le.mp rfl | exact Le.csl rfl | exact Le.cslsl rfl | exact Le.nils rfl (fun _ => ⟨trivial, trivial⟩) | refine Le.lst rfl (fun _ _ => rfl) (fun _ => ⟨trivial, trivial⟩) ?_ | refine Le.lst rfl (fun _ _ => rfl) (fun _ => ⟨fun _ => ⟨trivial, trivial⟩, trivial⟩) ?_ | exact Le.nils rfl (fun _ => ⟨fun _ => ⟨trivial, trivial⟩, trivial⟩) | exact Le.nils rfl (fun x => (cCm_ok x).1) | refine Le.lst rfl (fun _ _ => rfl) (fun x => (cCm_ok x).1) ?_ | refine Le.agg ?_ | refine Le.tup ?_ | refine Le.fn ?_ ?_ | refine Le.spt ?_ | exact Le.any _)), by show (0 + x.c.par.length) * 8 ≤ _; omega, by show 0 + x.c.par.length ≤ _; omega⟩, ?_⟩
            cbv
            refine Sat.freeze 3 rfl rfl ?_
            refine Sat.go ctx13_ok ctx13_inl (lv := 3) (by kernel_rfl) ?_
            cbv
            refine ⟨x.h, ⟨by ((repeat' first | exact LeL.nil | exact Le.refl _ | refine LeL.cons ?_ ?_ | exact Le.ic rfl | exact Le.bc rfl | exact Le.i rfl | exact Le.b rfl | exact Le.sl rfl | exact Le.mp rfl | exact Le.csl rfl | exact Le.cslsl rfl | exact Le.nils rfl (fun _ => ⟨trivial, trivial⟩) | refine Le.lst rfl (fun _ _ => rfl) (fun _ => ⟨trivial, trivial⟩) ?_ | refine Le.lst rfl (fun _ _ => rfl) (fun _ => ⟨fun _ => ⟨trivial, trivial⟩, trivial⟩) ?_ | exact Le.nils rfl (fun _ => ⟨fun _ => ⟨trivial, trivial⟩, trivial⟩) | exact Le.nils rfl (fun x => (cCm_ok x).1) | refine Le.lst rfl (fun _ _ => rfl) (fun x => (cCm_ok x).1) ?_ | refine Le.agg ?_ | refine Le.tup ?_ | refine Le.fn ?_ ?_ | refine Le.spt ?_ | exact Le.any _)), trivial⟩, ?_⟩
            cbv
            refine ⟨[{ x.c with id := dgW x.c }], ⟨by ((repeat' first | exact LeL.nil | exact Le.refl _ | refine LeL.cons ?_ ?_ | exact Le.ic rfl | exact Le.bc rfl | exact Le.i rfl | exact Le.b rfl | exact Le.sl rfl | exact Le.mp rfl | exact Le.csl rfl | exact Le.cslsl rfl | exact Le.nils rfl (fun _ => ⟨trivial, trivial⟩) | refine Le.lst rfl (fun _ _ => rfl) (fun _ => ⟨trivial, trivial⟩) ?_ | refine Le.lst rfl (fun _ _ => rfl) (fun _ => ⟨fun _ => ⟨trivial, trivial⟩, trivial⟩) ?_ | exact Le.nils rfl (fun _ => ⟨fun _ => ⟨trivial, trivial⟩, trivial⟩) | exact Le.nils rfl (fun x => (cCm_ok x).1) | refine Le.lst rfl (fun _ _ => rfl) (fun x => (cCm_ok x).1) ?_ | refine Le.agg ?_ | refine Le.tup ?_ | refine Le.fn ?_ ?_ | refine Le.spt ?_ | exact Le.any _)), by show (x.h.length + 1) * 48 ≤ _; omega, by show x.h.length + 1 ≤ 9223372036854775807; omega, by simp, fun z => (cCm_ok z).2⟩, ?_⟩
            cbv
            refine ⟨.tup ?_⟩
            rw [e]
            ((repeat' first | exact LeL.nil | exact Le.refl _ | refine LeL.cons ?_ ?_ | exact Le.ic rfl | exact Le.bc rfl | exact Le.i rfl | exact Le.b rfl | exact Le.sl rfl | exact Le.mp rfl | exact Le.csl rfl | exact Le.cslsl rfl | exact Le.nils rfl (fun _ => ⟨trivial, trivial⟩) | refine Le.lst rfl (fun _ _ => rfl) (fun _ => ⟨trivial, trivial⟩) ?_ | refine Le.lst rfl (fun _ _ => rfl) (fun _ => ⟨fun _ => ⟨trivial, trivial⟩, trivial⟩) ?_ | exact Le.nils rfl (fun _ => ⟨fun _ => ⟨trivial, trivial⟩, trivial⟩) | exact Le.nils rfl (fun x => (cCm_ok x).1) | refine Le.lst rfl (fun _ _ => rfl) (fun x => (cCm_ok x).1) ?_ | refine Le.agg ?_ | refine Le.tup ?_ | refine Le.fn ?_ ?_ | refine Le.spt ?_ | exact Le.any _))

end Go.Proofs.Hist
