/-
  The transport's functions, sixth part: links change.
-/
import Derived.Test.YtcejljfammcflaaTranF
set_option linter.unusedVariables false
set_option linter.unusedSimpArgs false
set_option maxRecDepth 10000
set_option maxHeartbeats 1000000
namespace Go.Proofs.Tran
open Go Go.Vc

noncomputable def sp12 : List (Nat × Vc.Spec) := (20, PackedS) :: sp11
theorem sp12_ok : All (fun f S => SpecOk (PP ()) f S) sp12 := ⟨packet_ok, sp11_ok⟩
noncomputable def inl3 : List (Nat × Func) := (52, Try.f52) :: (53, Try.f53) :: (55, Try.f55) :: (57, Try.f57) :: inl2
theorem inl3_ok : All (fun f fn => FnOk (PP ()) f fn ∧ fnCodeOk fn = true) inl3 :=
  ⟨⟨fnOk_of Try.func52 (by kernel_rfl), by kernel_rfl⟩, ⟨fnOk_of Try.func53 (by kernel_rfl), by kernel_rfl⟩, ⟨fnOk_of Try.func55 (by kernel_rfl), by kernel_rfl⟩, ⟨fnOk_of Try.func57 (by kernel_rfl), by kernel_rfl⟩, inl2_ok⟩
noncomputable def ctx12 : Ctx := { tt := tt, el := el, sp := fun f => tab sp12 f, inl := fun f => tab inl3 f }
theorem ctx12_ok : ctx12.Ok (PP ()) := ⟨tt_ok, el_ok ctx12 rfl, tab_all sp12_ok, fun f fn h => (tab_all inl3_ok f fn h).1, mixed⟩
theorem ctx12_inl : InlOk ctx12 := fun f fn h => (tab_all inl3_ok f fn h).2

def Lk0 : Lk := ⟨0, [], 0, [], 0⟩
def sndBad (l : Lk) (d : List Int) : Bool := ltB 256 (d.length : Int) || leB 32 (l.out.length : Int) || leB 1000000000 (IntKind.i64.wrap (l.base + (l.out.length : Int)))
def sndL (l : Lk) (d : List Int) : Lk := if sndBad l d then Lk0 else { l with out := l.out ++ [d] }
def sndE (l : Lk) (d : List Int) : Int := if sndBad l d then 2 else 0
theorem snd_bad {l : Lk} {d : List Int} (h : sndBad l d = true) : sndL l d = Lk0 ∧ sndE l d = 2 := by simp [sndL, sndE, h]
theorem snd_good {l : Lk} {d : List Int} (h : sndBad l d = false) : sndL l d = { l with out := l.out ++ [d] } ∧ sndE l d = 0 := by simp [sndL, sndE, h]
theorem mk24 {n : Nat} (h : n ≤ 100000) : (0 : Int) ≤ (n : Int) ∧ (n : Int) ≤ (n : Int) ∧ (24 : Int) * (n : Int) ≤ 281474976710656 ∧ (n : Int) ≤ 9223372036854775807 := by omega
theorem copied (l : List (List Int)) : l.take (List.replicate ((l.length : Int)).toNat ([] : List Int)).length ++ (List.replicate ((l.length : Int)).toNat ([] : List Int)).drop l.length = l := by simp
def cpy (l : List (List Int)) : List (List Int) := l.take (List.replicate ((l.length : Int)).toNat ([] : List Int)).length ++ (List.replicate ((l.length : Int)).toNat ([] : List Int)).drop l.length
theorem cpy_eq (l : List (List Int)) : cpy l = l := copied l
theorem copied1 {l : List (List Int)} (h : l.length ≤ 100000) {d : List Int} : ((l.take (List.replicate ((l.length : Int)).toNat ([] : List Int)).length ++ (List.replicate ((l.length : Int)).toNat ([] : List Int)).drop l.length).length + [d].length) * 24 ≤ 140737488355328 ∧
    (l.take (List.replicate ((l.length : Int)).toNat ([] : List Int)).length ++ (List.replicate ((l.length : Int)).toNat ([] : List Int)).drop l.length).length + [d].length ≤ 9223372036854775807 := by
  rw [copied]
  simp only [List.length_cons, List.length_nil]
  omega
structure LD where
  l : Lk
  d : List Int
def SendS : Vc.Spec where
  α := LD
  args x := [.agg (Lk.cells fun _ => x.l), .sl 1 cU8 (fun _ => x.d)]
  pre x := Sm x.l.out ∧ Sm x.l.ins ∧ x.d.length ≤ 1000000
  res x := .tup [.agg (Lk.cells fun _ => sndL x.l x.d), .i .i64 (fun _ => sndE x.l x.d)]
theorem Send_ok : SpecOk (PP ()) 42 SendS := by
  refine spec_of_vc (lv := 3) ctx12_ok ctx12_inl (fnOk_of Try.func42 (by kernel_rfl)) (by kernel_rfl) (fun a => ⟨Lk.lf fun _ => a.l, fun y => (cU8_ok y).1, trivial⟩) (fun a => ⟨Lk.lf fun _ => sndL a.l a.d, trivial, trivial⟩) ?_
  intro x hx
  have hx : Sm x.l.out ∧ Sm x.l.ins ∧ x.d.length ≤ 1000000 := hx
  have h1 := hx.1
  have h2 := hx.2.1
  have h3 := hx.2.2
  have n1 := h1.n
  have n2 := h2.n
  refine ⟨?_⟩
  cbv
  refine ⟨fun e => ?_, fun e => ?_⟩
  · have e : ltB 256 (x.d.length : Int) = true := e.out
    have e12 := snd_bad (l := x.l) (d := x.d) (by simp [sndBad, e])
    have e1 := e12.1
    have e2 := e12.2
    cbv
    rw [e1, e2]
    refine ⟨.tup ?_⟩
    ((repeat' first | exact LeL.nil | exact Le.refl _ | refine LeL.cons ?_ ?_ | exact Le.ic rfl | exact Le.bc rfl | exact Le.i rfl | exact Le.b rfl | exact Le.sl rfl | exact Le.nils rfl (fun _ => ⟨trivial, trivial⟩) | refine Le.lst rfl (fun _ _ => rfl) (fun _ => ⟨trivial, trivial⟩) ?_ | refine Le.lst rfl (fun _ _ => rfl) (fun _ => ⟨fun _ => ⟨trivial, trivial⟩, trivial⟩) ?_ | exact Le.nils rfl (fun _ => ⟨fun _ => ⟨trivial, trivial⟩, trivial⟩) | refine Le.agg ?_ | refine Le.tup ?_ | exact Le.any _))
  have b1 : ltB 256 (x.d.length : Int) = false := e.out
  cbv
  refine ⟨fun e => ?_, fun e => ?_⟩
  · have e : leB 32 (x.l.out.length : Int) = true := e.out
    have e12 := snd_bad (l := x.l) (d := x.d) (by simp [sndBad, e])
    have e1 := e12.1
    have e2 := e12.2
    cbv
    rw [e1, e2]
    refine ⟨.tup ?_⟩
    ((repeat' first | exact LeL.nil | exact Le.refl _ | refine LeL.cons ?_ ?_ | exact Le.ic rfl | exact Le.bc rfl | exact Le.i rfl | exact Le.b rfl | exact Le.sl rfl | exact Le.nils rfl (fun _ => ⟨trivial, trivial⟩) | refine Le.lst rfl (fun _ _ => rfl) (fun _ => ⟨trivial, trivial⟩) ?_ | refine Le.lst rfl (fun _ _ => rfl) (fun _ => ⟨fun _ => ⟨trivial, trivial⟩, trivial⟩) ?_ | exact Le.nils rfl (fun _ => ⟨fun _ => ⟨trivial, trivial⟩, trivial⟩) | refine Le.agg ?_ | refine Le.tup ?_ | exact Le.any _))
  have b2 : leB 32 (x.l.out.length : Int) = false := e.out
  cbv
  refine ⟨fun e => ?_, fun e => ?_⟩
  · have e : leB 1000000000 (IntKind.i64.wrap (x.l.base + (x.l.out.length : Int))) = true := e.out
    have e12 := snd_bad (l := x.l) (d := x.d) (by simp [sndBad, e])
    have e1 := e12.1
    have e2 := e12.2
    cbv
    rw [e1, e2]
    refine ⟨.tup ?_⟩
    ((repeat' first | exact LeL.nil | exact Le.refl _ | refine LeL.cons ?_ ?_ | exact Le.ic rfl | exact Le.bc rfl | exact Le.i rfl | exact Le.b rfl | exact Le.sl rfl | exact Le.nils rfl (fun _ => ⟨trivial, trivial⟩) | refine Le.lst rfl (fun _ _ => rfl) (fun _ => ⟨trivial, trivial⟩) ?_ | refine Le.lst rfl (fun _ _ => rfl) (fun _ => ⟨fun _ => ⟨trivial, trivial⟩, trivial⟩) ?_ | exact Le.nils rfl (fun _ => ⟨fun _ => ⟨trivial, trivial⟩, trivial⟩) | refine Le.agg ?_ | refine Le.tup ?_ | exact Le.any _))
  have b3 : leB 1000000000 (IntKind.i64.wrap (x.l.base + (x.l.out.length : Int))) = false := e.out
  have e12 := snd_good (l := x.l) (d := x.d) (by simp [sndBad, b1, b2, b3])
  have e1 := e12.1
  have e2 := e12.2
  cbv
  refine ⟨⟨mk24 n1⟩, ⟨mk24 n2⟩, x.l.out, ⟨.sl rfl⟩, ?_⟩
  cbv
  refine ⟨x.l.ins, ⟨.sl rfl⟩, ?_⟩
  cbv
  refine ⟨x.d, ⟨by ((repeat' first | exact LeL.nil | exact Le.refl _ | refine LeL.cons ?_ ?_ | exact Le.ic rfl | exact Le.bc rfl | exact Le.i rfl | exact Le.b rfl | exact Le.sl rfl | exact Le.nils rfl (fun _ => ⟨trivial, trivial⟩) | refine Le.lst rfl (fun _ _ => rfl) (fun _ => ⟨trivial, trivial⟩) ?_ | refine Le.lst rfl (fun _ _ => rfl) (fun _ => ⟨fun _ => ⟨trivial, trivial⟩, trivial⟩) ?_ | exact Le.nils rfl (fun _ => ⟨fun _ => ⟨trivial, trivial⟩, trivial⟩) | refine Le.agg ?_ | refine Le.tup ?_ | exact Le.any _)), by show x.d.length ≤ _; omega⟩, ?_⟩
  cbv
  refine ⟨[x.d], ⟨by cbv; ((repeat' first | exact LeL.nil | exact Le.refl _ | refine LeL.cons ?_ ?_ | exact Le.ic rfl | exact Le.bc rfl | exact Le.i rfl | exact Le.b rfl | exact Le.sl rfl | exact Le.nils rfl (fun _ => ⟨trivial, trivial⟩) | refine Le.lst rfl (fun _ _ => rfl) (fun _ => ⟨trivial, trivial⟩) ?_ | refine Le.lst rfl (fun _ _ => rfl) (fun _ => ⟨fun _ => ⟨trivial, trivial⟩, trivial⟩) ?_ | exact Le.nils rfl (fun _ => ⟨fun _ => ⟨trivial, trivial⟩, trivial⟩) | refine Le.agg ?_ | refine Le.tup ?_ | exact Le.any _)), copied1 n1⟩, ?_⟩
  cbv
  rw [e1, e2]
  refine ⟨.tup ?_⟩
  ((repeat' first | exact LeL.nil | exact Le.refl _ | refine LeL.cons ?_ ?_ | exact Le.ic rfl | exact Le.bc rfl | exact Le.i rfl | exact Le.b rfl | exact Le.sl rfl | exact Le.nils rfl (fun _ => ⟨trivial, trivial⟩) | refine Le.lst rfl (fun _ _ => rfl) (fun _ => ⟨trivial, trivial⟩) ?_ | refine Le.lst rfl (fun _ _ => rfl) (fun _ => ⟨fun _ => ⟨trivial, trivial⟩, trivial⟩) ?_ | exact Le.nils rfl (fun _ => ⟨fun _ => ⟨trivial, trivial⟩, trivial⟩) | refine Le.agg ?_ | refine Le.tup ?_ | exact Le.any _)) <;> exact .sl (by simp)

def Lk.ecells (l : Unit → Lk) (e : Unit → Int) : List SV := Lk.cells l ++ [.i .i64 e]
theorem Lk.elf (l : Unit → Lk) (e : Unit → Int) : LFL (Lk.ecells l e) := ⟨trivial, fun y => (cB_ok y).1, trivial, fun y => (cB_ok y).1, trivial, trivial, trivial⟩
def sndBadR (l : Lk) (d : List Int) : Bool := ltB 256 (d.length : Int) || eqB (l.out.length : Int) 32 || eqB (IntKind.i64.wrap (l.base + (l.out.length : Int))) 1000000000
def sndLR (l : Lk) (d : List Int) : Lk := if sndBadR l d then Lk0 else { l with out := l.out ++ [d] }
def sndER (l : Lk) (d : List Int) : Int := if sndBadR l d then 2 else 0
theorem sndR_bad {l : Lk} {d : List Int} (h : sndBadR l d = true) : sndLR l d = Lk0 ∧ sndER l d = 2 := by simp [sndLR, sndER, h]
theorem sndR_good {l : Lk} {d : List Int} (h : sndBadR l d = false) : sndLR l d = { l with out := l.out ++ [d] } ∧ sndER l d = 0 := by simp [sndLR, sndER, h]
def SendInS : Vc.Spec where
  α := LD
  args x := [.agg (Lk.cells fun _ => x.l), .sl 1 cU8 (fun _ => x.d)]
  pre x := Sm x.l.out ∧ Sm x.l.ins ∧ x.d.length ≤ 1000000
  res x := .agg (Lk.ecells (fun _ => sndLR x.l x.d) fun _ => sndER x.l x.d)
theorem SendIn_ok : SpecOk (PP ()) 24 SendInS := by
  refine spec_of_vc (lv := 3) ctx12_ok ctx12_inl (fnOk_of Try.func24 (by kernel_rfl)) (by kernel_rfl) (fun a => ⟨Lk.lf fun _ => a.l, fun y => (cU8_ok y).1, trivial⟩) (fun a => Lk.elf (fun _ => sndLR a.l a.d) fun _ => sndER a.l a.d) ?_
  intro x hx
  have hx : Sm x.l.out ∧ Sm x.l.ins ∧ x.d.length ≤ 1000000 := hx
  have h1 := hx.1
  have n1 := h1.n
  refine ⟨?_⟩
  cbv
  refine ⟨fun e => ?_, fun e => ?_⟩
  · have e : ltB 256 (x.d.length : Int) = true := e.out
    have e12 := sndR_bad (l := x.l) (d := x.d) (by simp [sndBadR, e])
    have e1 := e12.1
    have e2 := e12.2
    cbv
    rw [e1, e2]
    refine ⟨.agg ?_⟩
    ((repeat' first | exact LeL.nil | exact Le.refl _ | refine LeL.cons ?_ ?_ | exact Le.ic rfl | exact Le.bc rfl | exact Le.i rfl | exact Le.b rfl | exact Le.sl rfl | exact Le.nils rfl (fun _ => ⟨trivial, trivial⟩) | refine Le.lst rfl (fun _ _ => rfl) (fun _ => ⟨trivial, trivial⟩) ?_ | refine Le.lst rfl (fun _ _ => rfl) (fun _ => ⟨fun _ => ⟨trivial, trivial⟩, trivial⟩) ?_ | exact Le.nils rfl (fun _ => ⟨fun _ => ⟨trivial, trivial⟩, trivial⟩) | refine Le.agg ?_ | refine Le.tup ?_ | exact Le.any _))
  have b1 : ltB 256 (x.d.length : Int) = false := e.out
  cbv
  refine ⟨fun e => ?_, fun e => ?_⟩
  · have e : eqB (x.l.out.length : Int) 32 = true := e.out
    have e12 := sndR_bad (l := x.l) (d := x.d) (by simp [sndBadR, e])
    have e1 := e12.1
    have e2 := e12.2
    cbv
    rw [e1, e2]
    refine ⟨.agg ?_⟩
    ((repeat' first | exact LeL.nil | exact Le.refl _ | refine LeL.cons ?_ ?_ | exact Le.ic rfl | exact Le.bc rfl | exact Le.i rfl | exact Le.b rfl | exact Le.sl rfl | exact Le.nils rfl (fun _ => ⟨trivial, trivial⟩) | refine Le.lst rfl (fun _ _ => rfl) (fun _ => ⟨trivial, trivial⟩) ?_ | refine Le.lst rfl (fun _ _ => rfl) (fun _ => ⟨fun _ => ⟨trivial, trivial⟩, trivial⟩) ?_ | exact Le.nils rfl (fun _ => ⟨fun _ => ⟨trivial, trivial⟩, trivial⟩) | refine Le.agg ?_ | refine Le.tup ?_ | exact Le.any _))
  have b2 : eqB (x.l.out.length : Int) 32 = false := e.out
  cbv
  refine ⟨fun e => ?_, fun e => ?_⟩
  · have e : eqB (IntKind.i64.wrap (x.l.base + (x.l.out.length : Int))) 1000000000 = true := e.out
    have e12 := sndR_bad (l := x.l) (d := x.d) (by simp [sndBadR, e])
    have e1 := e12.1
    have e2 := e12.2
    cbv
    rw [e1, e2]
    refine ⟨.agg ?_⟩
    ((repeat' first | exact LeL.nil | exact Le.refl _ | refine LeL.cons ?_ ?_ | exact Le.ic rfl | exact Le.bc rfl | exact Le.i rfl | exact Le.b rfl | exact Le.sl rfl | exact Le.nils rfl (fun _ => ⟨trivial, trivial⟩) | refine Le.lst rfl (fun _ _ => rfl) (fun _ => ⟨trivial, trivial⟩) ?_ | refine Le.lst rfl (fun _ _ => rfl) (fun _ => ⟨fun _ => ⟨trivial, trivial⟩, trivial⟩) ?_ | exact Le.nils rfl (fun _ => ⟨fun _ => ⟨trivial, trivial⟩, trivial⟩) | refine Le.agg ?_ | refine Le.tup ?_ | exact Le.any _))
  have b3 : eqB (IntKind.i64.wrap (x.l.base + (x.l.out.length : Int))) 1000000000 = false := e.out
  have e12 := sndR_good (l := x.l) (d := x.d) (by simp [sndBadR, b1, b2, b3])
  have e1 := e12.1
  have e2 := e12.2
  cbv
  refine ⟨⟨x.l.out, x.d⟩, ⟨by ((repeat' first | exact LeL.nil | exact Le.refl _ | refine LeL.cons ?_ ?_ | exact Le.ic rfl | exact Le.bc rfl | exact Le.i rfl | exact Le.b rfl | exact Le.sl rfl | exact Le.nils rfl (fun _ => ⟨trivial, trivial⟩) | refine Le.lst rfl (fun _ _ => rfl) (fun _ => ⟨trivial, trivial⟩) ?_ | refine Le.lst rfl (fun _ _ => rfl) (fun _ => ⟨fun _ => ⟨trivial, trivial⟩, trivial⟩) ?_ | exact Le.nils rfl (fun _ => ⟨fun _ => ⟨trivial, trivial⟩, trivial⟩) | refine Le.agg ?_ | refine Le.tup ?_ | exact Le.any _)), by show x.l.out.length ≤ _; omega⟩, ?_⟩
  cbv
  rw [e1, e2]
  refine ⟨.agg ?_⟩
  ((repeat' first | exact LeL.nil | exact Le.refl _ | refine LeL.cons ?_ ?_ | exact Le.ic rfl | exact Le.bc rfl | exact Le.i rfl | exact Le.b rfl | exact Le.sl rfl | exact Le.nils rfl (fun _ => ⟨trivial, trivial⟩) | refine Le.lst rfl (fun _ _ => rfl) (fun _ => ⟨trivial, trivial⟩) ?_ | refine Le.lst rfl (fun _ _ => rfl) (fun _ => ⟨fun _ => ⟨trivial, trivial⟩, trivial⟩) ?_ | exact Le.nils rfl (fun _ => ⟨fun _ => ⟨trivial, trivial⟩, trivial⟩) | refine Le.agg ?_ | refine Le.tup ?_ | exact Le.any _))

/-! ### Take -/
def takD (l : Lk) : List Int := l.ins.headD []
def takL (l : Lk) : Lk := if l.ins = [] then Lk0 else { l with ins := l.ins.tail }
def takE (l : Lk) : Int := if l.ins = [] then 4 else 0
theorem tak_bad {l : Lk} (h : l.ins = []) : takD l = [] ∧ takL l = Lk0 ∧ takE l = 4 := by simp [takD, takL, takE, h]
theorem tak_good {l : Lk} {v : List Int} (h : l.ins[0]? = some v) : takD l = v ∧ takL l = { l with ins := l.ins.tail } ∧ takE l = 0 := by
  cases hl : l.ins with
  | nil => rw [hl] at h; cases h
  | cons a r => rw [hl] at h; simp at h; simp [takD, takL, takE, hl, h]
def TakeS : Vc.Spec where
  α := Lk
  args x := [.agg (Lk.cells fun _ => x)]
  pre x := Sm x.out ∧ Sm x.ins
  res x := .tup [.sl 1 cU8 (fun _ => takD x), .agg (Lk.cells fun _ => takL x), .i .i64 (fun _ => takE x)]
theorem Take_ok : SpecOk (PP ()) 40 TakeS := by
  refine spec_of_vc (lv := 3) ctx12_ok ctx12_inl (fnOk_of Try.func40 (by kernel_rfl)) (by kernel_rfl) (fun a => ⟨Lk.lf fun _ => a, trivial⟩) (fun a => ⟨fun y => (cU8_ok y).1, Lk.lf fun _ => takL a, trivial, trivial⟩) ?_
  intro x hx
  change Lk at x
  have hx : Sm x.out ∧ Sm x.ins := hx
  have n1 := hx.1.n
  have n2 := hx.2.n
  refine ⟨?_⟩
  cbv
  refine ⟨fun e => ?_, fun e => ?_⟩
  · have e : eqB (x.ins.length : Int) 0 = true := e.out
    have h0 : x.ins = [] := by simpa [eqB] using e
    have e0 := tak_bad h0
    have e1 := e0.1
    have e2 := e0.2.1
    have e3 := e0.2.2
    cbv
    rw [e1, e2, e3]
    refine ⟨.tup ?_⟩
    ((repeat' first | exact LeL.nil | exact Le.refl _ | refine LeL.cons ?_ ?_ | exact Le.ic rfl | exact Le.bc rfl | exact Le.i rfl | exact Le.b rfl | exact Le.sl rfl | exact Le.nils rfl (fun _ => ⟨trivial, trivial⟩) | refine Le.lst rfl (fun _ _ => rfl) (fun _ => ⟨trivial, trivial⟩) ?_ | refine Le.lst rfl (fun _ _ => rfl) (fun _ => ⟨fun _ => ⟨trivial, trivial⟩, trivial⟩) ?_ | exact Le.nils rfl (fun _ => ⟨fun _ => ⟨trivial, trivial⟩, trivial⟩) | refine Le.agg ?_ | refine Le.tup ?_ | exact Le.any _))
  have e : eqB (x.ins.length : Int) 0 = false := e.out
  have hlt : 0 < x.ins.length := by
    have : x.ins ≠ [] := by simpa [eqB] using e
    exact List.length_pos_iff.2 this
  have hex : ∃ v, x.ins[0]? = some v := ⟨_, List.getElem?_eq_getElem hlt⟩
  cbv
  obtain ⟨v, hv⟩ := hex
  have e0 := tak_good hv
  have e1 := e0.1
  have e2 := e0.2.1
  have e3 := e0.2.2
  have hvl := hx.2.get hv
  refine ⟨⟨mk24 n1⟩, ⟨mk24 n2⟩, x.out, ⟨.sl rfl⟩, ?_⟩
  cbv
  refine ⟨x.ins, ⟨.sl rfl⟩, ?_⟩
  cbv
  refine ⟨⟨by show (0 : Int) ≤ 1 ∧ (1 : Int) ≤ ((cpy x.ins).length : Int) ∧ ((cpy x.ins).length : Int) ≤ ((cpy x.ins).length : Int); rw [cpy_eq]; omega⟩, v, ⟨by decide, hv⟩, ?_⟩
  cbv
  refine ⟨v, ⟨by ((repeat' first | exact LeL.nil | exact Le.refl _ | refine LeL.cons ?_ ?_ | exact Le.ic rfl | exact Le.bc rfl | exact Le.i rfl | exact Le.b rfl | exact Le.sl rfl | exact Le.nils rfl (fun _ => ⟨trivial, trivial⟩) | refine Le.lst rfl (fun _ _ => rfl) (fun _ => ⟨trivial, trivial⟩) ?_ | refine Le.lst rfl (fun _ _ => rfl) (fun _ => ⟨fun _ => ⟨trivial, trivial⟩, trivial⟩) ?_ | exact Le.nils rfl (fun _ => ⟨fun _ => ⟨trivial, trivial⟩, trivial⟩) | refine Le.agg ?_ | refine Le.tup ?_ | exact Le.any _)), by show v.length ≤ _; omega⟩, ?_⟩
  cbv
  rw [e1, e2, e3]
  refine ⟨.tup ?_⟩
  ((repeat' first | exact LeL.nil | exact Le.refl _ | refine LeL.cons ?_ ?_ | exact Le.ic rfl | exact Le.bc rfl | exact Le.i rfl | exact Le.b rfl | exact Le.sl rfl | exact Le.nils rfl (fun _ => ⟨trivial, trivial⟩) | refine Le.lst rfl (fun _ _ => rfl) (fun _ => ⟨trivial, trivial⟩) ?_ | refine Le.lst rfl (fun _ _ => rfl) (fun _ => ⟨fun _ => ⟨trivial, trivial⟩, trivial⟩) ?_ | exact Le.nils rfl (fun _ => ⟨fun _ => ⟨trivial, trivial⟩, trivial⟩) | refine Le.agg ?_ | refine Le.tup ?_ | exact Le.any _)) <;> exact .sl (by simp)

def tkcells (d : Unit → List Int) (l : Unit → Lk) (e : Unit → Int) : List SV := .sl 1 cU8 d :: (Lk.cells l ++ [.i .i64 e])
theorem tkcells_lf (d : Unit → List Int) (l : Unit → Lk) (e : Unit → Int) : LFL (tkcells d l e) := ⟨fun y => (cU8_ok y).1, trivial, fun y => (cB_ok y).1, trivial, fun y => (cB_ok y).1, trivial, trivial, trivial⟩
def TakeInS : Vc.Spec where
  α := Lk
  args x := [.agg (Lk.cells fun _ => x)]
  pre x := Sm x.out ∧ Sm x.ins
  res x := .agg (tkcells (fun _ => takD x) (fun _ => takL x) fun _ => takE x)
theorem RTakeIn_ok : SpecOk (PP ()) 19 TakeInS := by
  refine spec_of_vc (lv := 3) ctx12_ok ctx12_inl (fnOk_of Try.func19 (by kernel_rfl)) (by kernel_rfl) (fun a => ⟨Lk.lf fun _ => a, trivial⟩) (fun a => tkcells_lf (fun _ => takD a) (fun _ => takL a) fun _ => takE a) ?_
  intro x hx
  change Lk at x
  have hx : Sm x.out ∧ Sm x.ins := hx
  have n1 := hx.1.n
  have n2 := hx.2.n
  refine ⟨?_⟩
  cbv
  refine ⟨fun e => ?_, fun e => ?_⟩
  · have e : eqB (x.ins.length : Int) 0 = true := e.out
    have h0 : x.ins = [] := by simpa [eqB] using e
    have e0 := tak_bad h0
    have e1 := e0.1
    have e2 := e0.2.1
    have e3 := e0.2.2
    cbv
    rw [e1, e2, e3]
    refine ⟨.agg ?_⟩
    ((repeat' first | exact LeL.nil | exact Le.refl _ | refine LeL.cons ?_ ?_ | exact Le.ic rfl | exact Le.bc rfl | exact Le.i rfl | exact Le.b rfl | exact Le.sl rfl | exact Le.nils rfl (fun _ => ⟨trivial, trivial⟩) | refine Le.lst rfl (fun _ _ => rfl) (fun _ => ⟨trivial, trivial⟩) ?_ | refine Le.lst rfl (fun _ _ => rfl) (fun _ => ⟨fun _ => ⟨trivial, trivial⟩, trivial⟩) ?_ | exact Le.nils rfl (fun _ => ⟨fun _ => ⟨trivial, trivial⟩, trivial⟩) | refine Le.agg ?_ | refine Le.tup ?_ | exact Le.any _))
  have e : eqB (x.ins.length : Int) 0 = false := e.out
  have hlt : 0 < x.ins.length := by
    have : x.ins ≠ [] := by simpa [eqB] using e
    exact List.length_pos_iff.2 this
  have hex : ∃ v, x.ins[0]? = some v := ⟨_, List.getElem?_eq_getElem hlt⟩
  cbv
  obtain ⟨v, hv⟩ := hex
  have e0 := tak_good hv
  have e1 := e0.1
  have e2 := e0.2.1
  have e3 := e0.2.2
  have hvl := hx.2.get hv
  obtain ⟨r, hr⟩ : ∃ r, r = x.ins.tail := ⟨_, rfl⟩
  have hrl : r.length ≤ 100000 := by rw [hr, List.length_tail]; omega
  refine ⟨v, ⟨by decide, hv⟩, ?_⟩
  cbv
  refine ⟨⟨by show (0 : Int) ≤ 1 ∧ (1 : Int) ≤ (x.ins.length : Int) ∧ (x.ins.length : Int) ≤ (x.ins.length : Int); omega⟩, r, ⟨by ((repeat' first | exact LeL.nil | exact Le.refl _ | refine LeL.cons ?_ ?_ | exact Le.ic rfl | exact Le.bc rfl | exact Le.i rfl | exact Le.b rfl | exact Le.sl rfl | exact Le.nils rfl (fun _ => ⟨trivial, trivial⟩) | refine Le.lst rfl (fun _ _ => rfl) (fun _ => ⟨trivial, trivial⟩) ?_ | refine Le.lst rfl (fun _ _ => rfl) (fun _ => ⟨fun _ => ⟨trivial, trivial⟩, trivial⟩) ?_ | exact Le.nils rfl (fun _ => ⟨fun _ => ⟨trivial, trivial⟩, trivial⟩) | refine Le.agg ?_ | refine Le.tup ?_ | exact Le.any _)); exact .sl (by rw [hr]; simp), by show (0 + r.length) * 24 ≤ _ ∧ 0 + r.length ≤ _; omega⟩, ?_⟩
  cbv
  rw [e1, e2, e3]
  refine ⟨.agg ?_⟩
  ((repeat' first | exact LeL.nil | exact Le.refl _ | refine LeL.cons ?_ ?_ | exact Le.ic rfl | exact Le.bc rfl | exact Le.i rfl | exact Le.b rfl | exact Le.sl rfl | exact Le.nils rfl (fun _ => ⟨trivial, trivial⟩) | refine Le.lst rfl (fun _ _ => rfl) (fun _ => ⟨trivial, trivial⟩) ?_ | refine Le.lst rfl (fun _ _ => rfl) (fun _ => ⟨fun _ => ⟨trivial, trivial⟩, trivial⟩) ?_ | exact Le.nils rfl (fun _ => ⟨fun _ => ⟨trivial, trivial⟩, trivial⟩) | refine Le.agg ?_ | refine Le.tup ?_ | exact Le.any _)) <;> exact .sl (by rw [hr]; simp)

noncomputable def sp13 : List (Nat × Vc.Spec) := (42, SendS) :: (24, SendInS) :: (40, TakeS) :: (19, TakeInS) :: sp12
theorem sp13_ok : All (fun f S => SpecOk (PP ()) f S) sp13 := ⟨Send_ok, SendIn_ok, Take_ok, RTakeIn_ok, sp12_ok⟩
noncomputable def ctx13 : Ctx := { tt := tt, el := el, sp := fun f => tab sp13 f, inl := fun f => tab inl3 f }
theorem ctx13_ok : ctx13.Ok (PP ()) := ⟨tt_ok, el_ok ctx13 rfl, tab_all sp13_ok, fun f fn h => (tab_all inl3_ok f fn h).1, mixed⟩
theorem ctx13_inl : InlOk ctx13 := fun f fn h => (tab_all inl3_ok f fn h).2
def sentS : Vc.Spec where
  α := LD
  args x := [.agg (Lk.cells fun _ => x.l), .sl 1 cU8 (fun _ => x.d)]
  pre x := Sm x.l.out ∧ Sm x.l.ins ∧ x.d.length ≤ 1000000
  res x := .agg (Lk.ecells (fun _ => sndL x.l x.d) fun _ => sndE x.l x.d)
theorem sent_ok : SpecOk (PP ()) 23 sentS := by
  refine spec_of_vc (lv := 3) ctx13_ok ctx13_inl (fnOk_of Try.func23 (by kernel_rfl)) (by kernel_rfl) (fun a => ⟨Lk.lf fun _ => a.l, fun y => (cU8_ok y).1, trivial⟩) (fun a => Lk.elf (fun _ => sndL a.l a.d) fun _ => sndE a.l a.d) ?_
  intro x hx
  refine ⟨?_⟩
  cbv
  refine ⟨x, ⟨by ((repeat' first | exact LeL.nil | exact Le.refl _ | refine LeL.cons ?_ ?_ | exact Le.ic rfl | exact Le.bc rfl | exact Le.i rfl | exact Le.b rfl | exact Le.sl rfl | exact Le.nils rfl (fun _ => ⟨trivial, trivial⟩) | refine Le.lst rfl (fun _ _ => rfl) (fun _ => ⟨trivial, trivial⟩) ?_ | refine Le.lst rfl (fun _ _ => rfl) (fun _ => ⟨fun _ => ⟨trivial, trivial⟩, trivial⟩) ?_ | exact Le.nils rfl (fun _ => ⟨fun _ => ⟨trivial, trivial⟩, trivial⟩) | refine Le.agg ?_ | refine Le.tup ?_ | exact Le.any _)), hx⟩, ?_⟩
  cbv
  refine ⟨.agg ?_⟩
  ((repeat' first | exact LeL.nil | exact Le.refl _ | refine LeL.cons ?_ ?_ | exact Le.ic rfl | exact Le.bc rfl | exact Le.i rfl | exact Le.b rfl | exact Le.sl rfl | exact Le.nils rfl (fun _ => ⟨trivial, trivial⟩) | refine Le.lst rfl (fun _ _ => rfl) (fun _ => ⟨trivial, trivial⟩) ?_ | refine Le.lst rfl (fun _ _ => rfl) (fun _ => ⟨fun _ => ⟨trivial, trivial⟩, trivial⟩) ?_ | exact Le.nils rfl (fun _ => ⟨fun _ => ⟨trivial, trivial⟩, trivial⟩) | refine Le.agg ?_ | refine Le.tup ?_ | exact Le.any _))
theorem taken_ok : SpecOk (PP ()) 18 TakeInS := by
  refine spec_of_vc (lv := 3) ctx13_ok ctx13_inl (fnOk_of Try.func18 (by kernel_rfl)) (by kernel_rfl) (fun a => ⟨Lk.lf fun _ => a, trivial⟩) (fun a => tkcells_lf (fun _ => takD a) (fun _ => takL a) fun _ => takE a) ?_
  intro x hx
  refine ⟨?_⟩
  cbv
  refine ⟨x, ⟨by ((repeat' first | exact LeL.nil | exact Le.refl _ | refine LeL.cons ?_ ?_ | exact Le.ic rfl | exact Le.bc rfl | exact Le.i rfl | exact Le.b rfl | exact Le.sl rfl | exact Le.nils rfl (fun _ => ⟨trivial, trivial⟩) | refine Le.lst rfl (fun _ _ => rfl) (fun _ => ⟨trivial, trivial⟩) ?_ | refine Le.lst rfl (fun _ _ => rfl) (fun _ => ⟨fun _ => ⟨trivial, trivial⟩, trivial⟩) ?_ | exact Le.nils rfl (fun _ => ⟨fun _ => ⟨trivial, trivial⟩, trivial⟩) | refine Le.agg ?_ | refine Le.tup ?_ | exact Le.any _)), hx⟩, ?_⟩
  cbv
  refine ⟨.agg ?_⟩
  ((repeat' first | exact LeL.nil | exact Le.refl _ | refine LeL.cons ?_ ?_ | exact Le.ic rfl | exact Le.bc rfl | exact Le.i rfl | exact Le.b rfl | exact Le.sl rfl | exact Le.nils rfl (fun _ => ⟨trivial, trivial⟩) | refine Le.lst rfl (fun _ _ => rfl) (fun _ => ⟨trivial, trivial⟩) ?_ | refine Le.lst rfl (fun _ _ => rfl) (fun _ => ⟨fun _ => ⟨trivial, trivial⟩, trivial⟩) ?_ | exact Le.nils rfl (fun _ => ⟨fun _ => ⟨trivial, trivial⟩, trivial⟩) | refine Le.agg ?_ | refine Le.tup ?_ | exact Le.any _))
end Go.Proofs.Tran
