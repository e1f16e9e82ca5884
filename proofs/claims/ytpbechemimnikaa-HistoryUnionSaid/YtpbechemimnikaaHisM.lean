/-
  The histories' functions: merge bases
-/
import Derived.Test.YtpbechemimnikaaHisL
set_option linter.unusedVariables false
set_option linter.unusedSimpArgs false
set_option maxRecDepth 10000
set_option maxHeartbeats 2000000
namespace Go.Proofs.Hist
open Go Go.Vc

noncomputable def sp20 : List (Nat × Vc.Spec) := (55, ShadS) :: sp17
theorem sp20_ok : All (fun f S => SpecOk (PP ()) f S) sp20 := ⟨Shad_ok, sp17_ok⟩
noncomputable def inl5 : List (Nat × Func) := (61, Try.f61) :: inl3
theorem inl5_ok : All (fun f fn => FnOk (PP ()) f fn ∧ fnCodeOk fn = true) inl5 := ⟨⟨fnOk_of Try.func61 (by kernel_rfl), by kernel_rfl⟩, inl3_ok⟩
noncomputable def ctx20 : Ctx := { tt := tt, el := el, sp := fun f => tab sp20 f, inl := fun f => tab inl5 f, lp := fun f => Nat.beq f 67 || Nat.beq f 61 || Nat.beq f 53 }
theorem ctx20_ok : ctx20.Ok (PP ()) := ⟨tt_ok, el_ok ctx20 rfl, tab_all sp20_ok, fun f fn h => (tab_all inl5_ok f fn h).1, mixed⟩
theorem ctx20_inl : InlOk ctx20 := fun f fn h => (tab_all inl5_ok f fn h).2

/-- A row that is cleared from c on. -/
def clearedR (xs : List Int) (c : Nat) : List Int := List.take ((c : Int)).toNat xs ++ List.replicate (((xs.length : Int)).toNat - ((c : Int)).toNat) 0 ++ List.drop (((c : Int)).toNat + (((xs.length : Int)).toNat - ((c : Int)).toNat)) xs
theorem cleared1 {xs : List Int} {c : Nat} (h : c ≤ xs.length) : 0 ≤ (0 : Int) ∧ (0 : Int) ≤ (c : Int) ∧ (c : Int) ≤ ((clearedR xs c).length : Int) := by
  refine ⟨by omega, by omega, ?_⟩
  unfold clearedR
  simp only [List.length_append, List.length_take, List.length_replicate, List.length_drop, Int.toNat_natCast]
  omega
theorem cleared2 {xs : List Int} {c : Nat} (h : c ≤ xs.length) : List.drop ((0 : Int)).toNat (List.take ((c : Int)).toNat (clearedR xs c)) = xs.take c := by
  unfold clearedR
  simp only [Int.toNat_natCast, Int.toNat_zero, List.drop_zero]
  rw [List.append_assoc, List.take_append_of_le_length (by rw [List.length_take]; omega), List.take_take, Nat.min_self]
/-- Where a deletion stands: of L, the first j numbers are looked at; those that stay, c of them, lie ahead. -/
structure DelInv (L : List Int) (p : Int → Bool) (j c : Nat) (xs : List Int) : Prop where
  len : xs.length = L.length
  cnt : c = ((L.take j).filter p).length
  lt : c < j
  top : xs.take c = (L.take j).filter p
  rest : xs.drop j = L.drop j
theorem del_first {L : List Int} {del : Int → Bool} {k : Nat} {v : Int} (h1 : (L.take k).any del = false) (hv : L[k]? = some v) (h2 : del v = true) : ∃ _ : True, DelInv L (fun v => !del v) (k + 1) k L := by
  have hlt := (List.getElem?_eq_some_iff.1 hv).1
  have e : (L.take (k + 1)).filter (fun v => !del v) = L.take k := by
    rw [List.take_add_one, hv, List.filter_append]
    have e1 : (L.take k).filter (fun v => !del v) = L.take k := List.filter_eq_self.2 fun y hy => by
      have := List.any_eq_false.1 h1 y hy
      simpa using this
    rw [e1]
    simp [h2]
  refine ⟨trivial, rfl, ?_, by omega, e.symm, rfl⟩
  rw [e, List.length_take]
  omega
theorem DelInv.at {L : List Int} {p : Int → Bool} {j c : Nat} {xs : List Int} (D : DelInv L p j c xs) : xs[j]? = L[j]? := by
  have := congrArg (fun l => l[0]?) D.rest
  simpa using this
theorem DelInv.no {L : List Int} {p : Int → Bool} {j c : Nat} {xs : List Int} (D : DelInv L p j c xs) {v : Int} (hv : L[j]? = some v) (hp : p v = false) : DelInv L p (j + 1) c xs := by
  have e : (L.take (j + 1)).filter p = (L.take j).filter p := by
    rw [List.take_add_one, hv, List.filter_append]
    simp [hp]
  refine ⟨D.len, by rw [e]; exact D.cnt, by have := D.lt; omega, by rw [e]; exact D.top, ?_⟩
  rw [← List.drop_drop (i := 1) (j := j), D.rest, List.drop_drop]
theorem DelInv.yes {L : List Int} {p : Int → Bool} {j c : Nat} {xs : List Int} (D : DelInv L p j c xs) {v : Int} (hv : L[j]? = some v) (hp : p v = true) : DelInv L p (j + 1) (c + 1) (xs.set c v) := by
  have hlt := (List.getElem?_eq_some_iff.1 hv).1
  have e : (L.take (j + 1)).filter p = (L.take j).filter p ++ [v] := by
    rw [List.take_add_one, hv, List.filter_append]
    simp [hp]
  have hl := D.lt
  have hn := D.len
  refine ⟨by rw [List.length_set]; exact D.len, by rw [e, List.length_append, ← D.cnt]; rfl, by omega, ?_, ?_⟩
  · rw [e, ← D.top, List.take_add_one, List.take_set_of_le (Nat.le_refl c), List.getElem?_set_self (by omega)]
    rfl
  · rw [List.drop_set_of_lt (by omega), ← List.drop_drop (i := 1) (j := j), D.rest, List.drop_drop]
theorem DelInv.done {L : List Int} {p : Int → Bool} {c : Nat} {xs : List Int} (D : DelInv L p L.length c xs) : xs.take c = L.filter p := by
  rw [D.top, List.take_length]
def comS (h : List Cm) (s t : Int → Bool) : List Int := (ids h).filter fun y => s y && t y
def basS (h : List Cm) (a b : Int) : List Int × Int := match above h a, above h b with
  | some s, some t => ((comS h s t).filter fun y => !(comS h s t).any (overB (above h) y), 0)
  | _, _ => ([], 4)
def BasS : Vc.Spec where
  α := HAB
  args x := [.sl 4 cCm (fun _ => x.h), .i .u64 (fun _ => x.a), .i .u64 (fun _ => x.b)]
  pre x := Hs x.h
  res x := .tup [.sl 1 cU64 (fun _ => (basS x.h x.a x.b).1), .i .i64 (fun _ => (basS x.h x.a x.b).2)]
theorem Bas_ok : SpecOk (PP ()) 34 BasS := by
  refine spec_of_vc (lv := 5) ctx20_ok ctx20_inl (fnOk_of Try.func34 (by kernel_rfl)) (by kernel_rfl) (fun a => by simp [BasS, LFL, LF, cU64, cCm, Cm.cells, cSet, cTrue]) (fun a => by simp [BasS, LFL, LF, cU64, cCm, Cm.cells, cSet, cTrue]) ?_
  intro x hx
  have H : Hs x.h := hx
  obtain ⟨q, hq⟩ : ∃ q, q = basS x.h x.a x.b := ⟨_, rfl⟩
  have hr : BasS.res x = .tup [.sl 1 cU64 (fun _ => q.1), .i .i64 (fun _ => q.2)] := by rw [hq]; rfl
  rw [hr]
  unfold basS at hq
  refine ⟨?_⟩
  cbv
  refine ⟨x, ⟨by ((repeat' first | exact LeL.nil | exact Le.refl _ | refine LeL.cons ?_ ?_ | exact Le.ic rfl | exact Le.bc rfl | exact Le.i rfl | exact Le.b rfl | exact Le.sl rfl | exact Le.mp rfl | exact Le.csl rfl | exact Le.cslsl rfl | exact Le.nils rfl (fun _ => ⟨trivial, trivial⟩) | refine Le.lst rfl (fun _ _ => rfl) (fun _ => ⟨trivial, trivial⟩) ?_ | refine Le.lst rfl (fun _ _ => rfl) (fun _ => ⟨fun _ => ⟨trivial, trivial⟩, trivial⟩) ?_ | exact Le.nils rfl (fun _ => ⟨fun _ => ⟨trivial, trivial⟩, trivial⟩) | exact Le.nils rfl (fun x => (cCm_ok x).1) | refine Le.lst rfl (fun _ _ => rfl) (fun x => (cCm_ok x).1) ?_ | refine Le.agg ?_ | refine Le.tup ?_ | refine Le.fn ?_ ?_ | refine Le.spt ?_ | exact Le.any _)), H⟩, ?_⟩
  cbv
  refine ⟨fun h => ?_, fun h => ?_⟩
  · have h := h.out
    rcases ha : above x.h x.a with _ | s
    · rw [ha] at hq
      cbv
      exact ⟨.tup (.cons (.nils (by rw [hq]) fun y => (cU64_ok y).1) (.cons (.ic (by rw [hq])) .nil))⟩
    · rcases hb : above x.h x.b with _ | t
      · rw [ha, hb] at hq
        cbv
        exact ⟨.tup (.cons (.nils (by rw [hq]) fun y => (cU64_ok y).1) (.cons (.ic (by rw [hq])) .nil))⟩
      · exfalso
        have h' : (!((above x.h x.a).isSome && (above x.h x.b).isSome)) = true := h
        rw [ha, hb] at h'
        cases h'
  · have h := h.out
    have h' : (!((above x.h x.a).isSome && (above x.h x.b).isSome)) = false := h
    rcases ha : above x.h x.a with _ | s
    · rw [ha] at h'; cases h'
    rcases hb : above x.h x.b with _ | t
    · rw [ha, hb] at h'; cases h'
    rw [ha, hb] at hq
    cbv
    refine Sat.adoptc 3 0 27 1 eltU64 cU64_ok rfl rfl ?_
    refine Sat.loopD ctx20_ok ctx20_inl (lv := 4) (by kernel_rfl) 8 8 [(.c 3 0, 7)] (fun i : Nat => [(8, .i .i64 (fun _ => (i : Int)))]) (fun i => [(7, .dyn 27 1 cU64 (fun _ => ((ids x.h).take i).filter (fun y => s y && t y)))])
      (fun i => i ≤ x.h.length) (fun i => x.h.length - i) 0 (by ((try cbv) <;> (repeat' (first | with_reducible exact trivial | with_reducible refine And.intro ?_ ?_)) <;> (try first | exact SlotLe.refl _ | exact SlotLe.dyn rfl | exact SlotLe.map rfl | exact SlotLe.iter rfl rfl (.inl rfl) | exact SlotLe.iter rfl rfl (.inr rfl) | refine SlotLe.fix ?_ | refine SlotLe.dyn ?_) <;> ((repeat' first | exact LeL.nil | exact Le.refl _ | refine LeL.cons ?_ ?_ | exact Le.ic rfl | exact Le.bc rfl | exact Le.i rfl | exact Le.b rfl | exact Le.sl rfl | exact Le.mp rfl | exact Le.csl rfl | exact Le.cslsl rfl | exact Le.nils rfl (fun _ => ⟨trivial, trivial⟩) | refine Le.lst rfl (fun _ _ => rfl) (fun _ => ⟨trivial, trivial⟩) ?_ | refine Le.lst rfl (fun _ _ => rfl) (fun _ => ⟨fun _ => ⟨trivial, trivial⟩, trivial⟩) ?_ | exact Le.nils rfl (fun _ => ⟨fun _ => ⟨trivial, trivial⟩, trivial⟩) | exact Le.nils rfl (fun x => (cCm_ok x).1) | refine Le.lst rfl (fun _ _ => rfl) (fun x => (cCm_ok x).1) ?_ | refine Le.agg ?_ | refine Le.tup ?_ | refine Le.fn ?_ ?_ | refine Le.spt ?_ | exact Le.any _)))) (by ((try cbv) <;> (repeat' (first | with_reducible exact trivial | with_reducible refine And.intro ?_ ?_)) <;> (try first | exact SlotLe.refl _ | exact SlotLe.dyn rfl | exact SlotLe.map rfl | exact SlotLe.iter rfl rfl (.inl rfl) | exact SlotLe.iter rfl rfl (.inr rfl) | refine SlotLe.fix ?_ | refine SlotLe.dyn ?_) <;> ((repeat' first | exact LeL.nil | exact Le.refl _ | refine LeL.cons ?_ ?_ | exact Le.ic rfl | exact Le.bc rfl | exact Le.i rfl | exact Le.b rfl | exact Le.sl rfl | exact Le.mp rfl | exact Le.csl rfl | exact Le.cslsl rfl | exact Le.nils rfl (fun _ => ⟨trivial, trivial⟩) | refine Le.lst rfl (fun _ _ => rfl) (fun _ => ⟨trivial, trivial⟩) ?_ | refine Le.lst rfl (fun _ _ => rfl) (fun _ => ⟨fun _ => ⟨trivial, trivial⟩, trivial⟩) ?_ | exact Le.nils rfl (fun _ => ⟨fun _ => ⟨trivial, trivial⟩, trivial⟩) | exact Le.nils rfl (fun x => (cCm_ok x).1) | refine Le.lst rfl (fun _ _ => rfl) (fun x => (cCm_ok x).1) ?_ | refine Le.agg ?_ | refine Le.tup ?_ | refine Le.fn ?_ ?_ | refine Le.spt ?_ | exact Le.any _)))) (by omega) ?_
    intro i hi
    have hn := H.n
    cbv
    refine ⟨fun h2 => ?_, fun h2 => ?_⟩
    · have h2 := h2.out
      have hlt : i < x.h.length := by simp [ltB] at h2; ((try simp only [Go.Vc.natc] at *); omega)
      obtain ⟨va, hva⟩ : ∃ v, x.h[i]? = some v := ⟨_, List.getElem?_eq_getElem hlt⟩
      have hlen := col_len (fun y => s y && t y) x.h i
      cbv
      refine ⟨va, ⟨Int.natCast_nonneg i, hva⟩, ?_⟩
      cbv
      refine ⟨some (some s), ⟨ha⟩, ?_⟩
      cbv
      refine ⟨none, ⟨rfl, fun _ => rfl⟩, ?_⟩
      cbv
      refine ⟨fun h3 => ?_, fun h3 => ?_⟩
      · have ht := setM_tru h3.out
        cbv
        refine ⟨some (some t), ⟨hb⟩, ?_⟩
        cbv
        refine ⟨none, ⟨rfl, fun _ => rfl⟩, ?_⟩
        cbv
        refine ⟨fun h4 => ?_, fun h4 => ?_⟩
        · have hss := setM_tru h4.out
          have hs : (s va.id && t va.id) = true := by rw [ht, hss]; rfl
          have e := col_yes hva (s := (fun y => s y && t y)) hs
          cbv
          refine ⟨[va.id], ⟨by ((repeat' first | exact LeL.nil | exact Le.refl _ | refine LeL.cons ?_ ?_ | exact Le.ic rfl | exact Le.bc rfl | exact Le.i rfl | exact Le.b rfl | exact Le.sl rfl | exact Le.mp rfl | exact Le.csl rfl | exact Le.cslsl rfl | exact Le.nils rfl (fun _ => ⟨trivial, trivial⟩) | refine Le.lst rfl (fun _ _ => rfl) (fun _ => ⟨trivial, trivial⟩) ?_ | refine Le.lst rfl (fun _ _ => rfl) (fun _ => ⟨fun _ => ⟨trivial, trivial⟩, trivial⟩) ?_ | exact Le.nils rfl (fun _ => ⟨fun _ => ⟨trivial, trivial⟩, trivial⟩) | exact Le.nils rfl (fun x => (cCm_ok x).1) | refine Le.lst rfl (fun _ _ => rfl) (fun x => (cCm_ok x).1) ?_ | refine Le.agg ?_ | refine Le.tup ?_ | refine Le.fn ?_ ?_ | refine Le.spt ?_ | exact Le.any _)), by show ((((ids x.h).take i).filter (fun y => s y && t y)).length + 1) * 8 ≤ _; omega, by show (((ids x.h).take i).filter (fun y => s y && t y)).length + 1 ≤ 9223372036854775807; omega⟩, ?_⟩
          cbv
          exact ⟨i + 1, by ((try cbv) <;> (repeat' (first | with_reducible exact trivial | with_reducible refine And.intro ?_ ?_)) <;> (try first | exact SlotLe.refl _ | exact SlotLe.dyn rfl | exact SlotLe.map rfl | exact SlotLe.iter rfl rfl (.inl rfl) | exact SlotLe.iter rfl rfl (.inr rfl) | refine SlotLe.fix ?_ | refine SlotLe.dyn ?_) <;> ((repeat' first | exact LeL.nil | exact Le.refl _ | refine LeL.cons ?_ ?_ | exact Le.ic rfl | exact Le.bc rfl | exact Le.i rfl | exact Le.b rfl | exact Le.sl rfl | exact Le.mp rfl | exact Le.csl rfl | exact Le.cslsl rfl | exact Le.nils rfl (fun _ => ⟨trivial, trivial⟩) | refine Le.lst rfl (fun _ _ => rfl) (fun _ => ⟨trivial, trivial⟩) ?_ | refine Le.lst rfl (fun _ _ => rfl) (fun _ => ⟨fun _ => ⟨trivial, trivial⟩, trivial⟩) ?_ | exact Le.nils rfl (fun _ => ⟨fun _ => ⟨trivial, trivial⟩, trivial⟩) | exact Le.nils rfl (fun x => (cCm_ok x).1) | refine Le.lst rfl (fun _ _ => rfl) (fun x => (cCm_ok x).1) ?_ | refine Le.agg ?_ | refine Le.tup ?_ | refine Le.fn ?_ ?_ | refine Le.spt ?_ | exact Le.any _))) <;> (refine .i ?_; show IntKind.i64.wrap ((i : Int) + 1) = ((i + 1 : Nat) : Int); rw [w64 (by omega) (by omega)]; rfl), by ((try cbv) <;> (repeat' (first | with_reducible exact trivial | with_reducible refine And.intro ?_ ?_)) <;> (try first | exact SlotLe.refl _ | exact SlotLe.dyn rfl | exact SlotLe.map rfl | exact SlotLe.iter rfl rfl (.inl rfl) | exact SlotLe.iter rfl rfl (.inr rfl) | refine SlotLe.fix ?_ | refine SlotLe.dyn ?_) <;> ((repeat' first | exact LeL.nil | exact Le.refl _ | refine LeL.cons ?_ ?_ | exact Le.ic rfl | exact Le.bc rfl | exact Le.i rfl | exact Le.b rfl | exact Le.sl rfl | exact Le.mp rfl | exact Le.csl rfl | exact Le.cslsl rfl | exact Le.nils rfl (fun _ => ⟨trivial, trivial⟩) | refine Le.lst rfl (fun _ _ => rfl) (fun _ => ⟨trivial, trivial⟩) ?_ | refine Le.lst rfl (fun _ _ => rfl) (fun _ => ⟨fun _ => ⟨trivial, trivial⟩, trivial⟩) ?_ | exact Le.nils rfl (fun _ => ⟨fun _ => ⟨trivial, trivial⟩, trivial⟩) | exact Le.nils rfl (fun x => (cCm_ok x).1) | refine Le.lst rfl (fun _ _ => rfl) (fun x => (cCm_ok x).1) ?_ | refine Le.agg ?_ | refine Le.tup ?_ | refine Le.fn ?_ ?_ | refine Le.spt ?_ | exact Le.any _))) <;> exact e.symm, ⟨by show i + 1 ≤ x.h.length ∧ x.h.length - (i + 1) < x.h.length - i; omega⟩⟩

        · have hss := setM_fls h4.out
          have hs : (s va.id && t va.id) = false := by rw [ht, hss]; rfl
          have e := col_no hva (s := (fun y => s y && t y)) hs
          cbv
          exact ⟨i + 1, by ((try cbv) <;> (repeat' (first | with_reducible exact trivial | with_reducible refine And.intro ?_ ?_)) <;> (try first | exact SlotLe.refl _ | exact SlotLe.dyn rfl | exact SlotLe.map rfl | exact SlotLe.iter rfl rfl (.inl rfl) | exact SlotLe.iter rfl rfl (.inr rfl) | refine SlotLe.fix ?_ | refine SlotLe.dyn ?_) <;> ((repeat' first | exact LeL.nil | exact Le.refl _ | refine LeL.cons ?_ ?_ | exact Le.ic rfl | exact Le.bc rfl | exact Le.i rfl | exact Le.b rfl | exact Le.sl rfl | exact Le.mp rfl | exact Le.csl rfl | exact Le.cslsl rfl | exact Le.nils rfl (fun _ => ⟨trivial, trivial⟩) | refine Le.lst rfl (fun _ _ => rfl) (fun _ => ⟨trivial, trivial⟩) ?_ | refine Le.lst rfl (fun _ _ => rfl) (fun _ => ⟨fun _ => ⟨trivial, trivial⟩, trivial⟩) ?_ | exact Le.nils rfl (fun _ => ⟨fun _ => ⟨trivial, trivial⟩, trivial⟩) | exact Le.nils rfl (fun x => (cCm_ok x).1) | refine Le.lst rfl (fun _ _ => rfl) (fun x => (cCm_ok x).1) ?_ | refine Le.agg ?_ | refine Le.tup ?_ | refine Le.fn ?_ ?_ | refine Le.spt ?_ | exact Le.any _))) <;> (refine .i ?_; show IntKind.i64.wrap ((i : Int) + 1) = ((i + 1 : Nat) : Int); rw [w64 (by omega) (by omega)]; rfl), by ((try cbv) <;> (repeat' (first | with_reducible exact trivial | with_reducible refine And.intro ?_ ?_)) <;> (try first | exact SlotLe.refl _ | exact SlotLe.dyn rfl | exact SlotLe.map rfl | exact SlotLe.iter rfl rfl (.inl rfl) | exact SlotLe.iter rfl rfl (.inr rfl) | refine SlotLe.fix ?_ | refine SlotLe.dyn ?_) <;> ((repeat' first | exact LeL.nil | exact Le.refl _ | refine LeL.cons ?_ ?_ | exact Le.ic rfl | exact Le.bc rfl | exact Le.i rfl | exact Le.b rfl | exact Le.sl rfl | exact Le.mp rfl | exact Le.csl rfl | exact Le.cslsl rfl | exact Le.nils rfl (fun _ => ⟨trivial, trivial⟩) | refine Le.lst rfl (fun _ _ => rfl) (fun _ => ⟨trivial, trivial⟩) ?_ | refine Le.lst rfl (fun _ _ => rfl) (fun _ => ⟨fun _ => ⟨trivial, trivial⟩, trivial⟩) ?_ | exact Le.nils rfl (fun _ => ⟨fun _ => ⟨trivial, trivial⟩, trivial⟩) | exact Le.nils rfl (fun x => (cCm_ok x).1) | refine Le.lst rfl (fun _ _ => rfl) (fun x => (cCm_ok x).1) ?_ | refine Le.agg ?_ | refine Le.tup ?_ | refine Le.fn ?_ ?_ | refine Le.spt ?_ | exact Le.any _))) <;> exact e.symm, ⟨by show i + 1 ≤ x.h.length ∧ x.h.length - (i + 1) < x.h.length - i; omega⟩⟩

      · have ht := setM_fls h3.out
        have hs : (s va.id && t va.id) = false := by rw [ht]; rfl
        have e := col_no hva (s := (fun y => s y && t y)) hs
        cbv
        exact ⟨i + 1, by ((try cbv) <;> (repeat' (first | with_reducible exact trivial | with_reducible refine And.intro ?_ ?_)) <;> (try first | exact SlotLe.refl _ | exact SlotLe.dyn rfl | exact SlotLe.map rfl | exact SlotLe.iter rfl rfl (.inl rfl) | exact SlotLe.iter rfl rfl (.inr rfl) | refine SlotLe.fix ?_ | refine SlotLe.dyn ?_) <;> ((repeat' first | exact LeL.nil | exact Le.refl _ | refine LeL.cons ?_ ?_ | exact Le.ic rfl | exact Le.bc rfl | exact Le.i rfl | exact Le.b rfl | exact Le.sl rfl | exact Le.mp rfl | exact Le.csl rfl | exact Le.cslsl rfl | exact Le.nils rfl (fun _ => ⟨trivial, trivial⟩) | refine Le.lst rfl (fun _ _ => rfl) (fun _ => ⟨trivial, trivial⟩) ?_ | refine Le.lst rfl (fun _ _ => rfl) (fun _ => ⟨fun _ => ⟨trivial, trivial⟩, trivial⟩) ?_ | exact Le.nils rfl (fun _ => ⟨fun _ => ⟨trivial, trivial⟩, trivial⟩) | exact Le.nils rfl (fun x => (cCm_ok x).1) | refine Le.lst rfl (fun _ _ => rfl) (fun x => (cCm_ok x).1) ?_ | refine Le.agg ?_ | refine Le.tup ?_ | refine Le.fn ?_ ?_ | refine Le.spt ?_ | exact Le.any _))) <;> (refine .i ?_; show IntKind.i64.wrap ((i : Int) + 1) = ((i + 1 : Nat) : Int); rw [w64 (by omega) (by omega)]; rfl), by ((try cbv) <;> (repeat' (first | with_reducible exact trivial | with_reducible refine And.intro ?_ ?_)) <;> (try first | exact SlotLe.refl _ | exact SlotLe.dyn rfl | exact SlotLe.map rfl | exact SlotLe.iter rfl rfl (.inl rfl) | exact SlotLe.iter rfl rfl (.inr rfl) | refine SlotLe.fix ?_ | refine SlotLe.dyn ?_) <;> ((repeat' first | exact LeL.nil | exact Le.refl _ | refine LeL.cons ?_ ?_ | exact Le.ic rfl | exact Le.bc rfl | exact Le.i rfl | exact Le.b rfl | exact Le.sl rfl | exact Le.mp rfl | exact Le.csl rfl | exact Le.cslsl rfl | exact Le.nils rfl (fun _ => ⟨trivial, trivial⟩) | refine Le.lst rfl (fun _ _ => rfl) (fun _ => ⟨trivial, trivial⟩) ?_ | refine Le.lst rfl (fun _ _ => rfl) (fun _ => ⟨fun _ => ⟨trivial, trivial⟩, trivial⟩) ?_ | exact Le.nils rfl (fun _ => ⟨fun _ => ⟨trivial, trivial⟩, trivial⟩) | exact Le.nils rfl (fun x => (cCm_ok x).1) | refine Le.lst rfl (fun _ _ => rfl) (fun x => (cCm_ok x).1) ?_ | refine Le.agg ?_ | refine Le.tup ?_ | refine Le.fn ?_ ?_ | refine Le.spt ?_ | exact Le.any _))) <;> exact e.symm, ⟨by show i + 1 ≤ x.h.length ∧ x.h.length - (i + 1) < x.h.length - i; omega⟩⟩
    · have h2 := h2.out
      have hlt : ¬ i < x.h.length := by simp [ltB] at h2; ((try simp only [Go.Vc.natc] at *); omega)
      have e : (ids x.h).take i = ids x.h := List.take_of_length_le (by simp [ids]; omega)
      cbv
      obtain ⟨L, hL⟩ : ∃ L, L = comS x.h s t := ⟨_, rfl⟩
      have eL : ((ids x.h).take i).filter (fun y => s y && t y) = L := by rw [e, hL]; rfl
      have hLn : L.length ≤ 1000000 := by rw [← eL]; have := col_len (fun y => s y && t y) x.h i; omega
      have hq : q = (L.filter fun y => !L.any (overB (above x.h) y), 0) := by rw [hL]; exact hq
      refine ⟨fun h5 => ?_, ?_⟩
      · have h5 : ((ids x.h).take i).filter (fun y => s y && t y) = [] := h5.out
        rw [eL] at h5
        rw [h5] at hq
        cbv
        refine Sat.rounds ctx20_ok ctx20_inl (lv := 3) (by kernel_rfl) 0 ?_
        cbv
        exact ⟨.tup (.cons (.nils (by rw [hq]; rfl) fun y => (cU64_ok y).1) (.cons (.ic (by rw [hq])) .nil))⟩
      · have q1 : (([] : List Int).length + L.length) * 8 ≤ 140737488355328 := by simp; omega
        have q2 : ([] : List Int).length + L.length ≤ 9223372036854775807 := by simp; omega
        cbv
        refine ⟨L, ⟨.sl eL, q1, q2⟩, ?_⟩
        cbv
        obtain ⟨del, hdel⟩ : ∃ d : Int → Bool, d = fun y => L.any (overB (above x.h) y) := ⟨_, rfl⟩
        have hq : q = (L.filter fun y => !del y, 0) := by rw [hdel]; exact hq
        have hdv : ∀ v, del v = L.any (overB (above x.h) v) := fun v => by rw [hdel]
        refine Sat.loopD ctx20_ok ctx20_inl (lv := 3) (by kernel_rfl) 11 8 [] (fun k : Nat => [(8, .i .i64 (fun _ => (k : Int))), (7, .i .i64 (fun _ => (L.length : Int)))]) (fun k => [(7, .dyn 27 1 cU64 (fun _ => L)), (10, .dyn 27 1 cU64 (fun _ => L))])
          (fun k => k ≤ L.length ∧ (L.take k).any del = false) (fun k => L.length - k) 0 (by ((try cbv) <;> (repeat' (first | with_reducible exact trivial | with_reducible refine And.intro ?_ ?_)) <;> (try first | exact SlotLe.refl _ | exact SlotLe.dyn rfl | exact SlotLe.map rfl | exact SlotLe.iter rfl rfl (.inl rfl) | exact SlotLe.iter rfl rfl (.inr rfl) | refine SlotLe.fix ?_ | refine SlotLe.dyn ?_) <;> ((repeat' first | exact LeL.nil | exact Le.refl _ | refine LeL.cons ?_ ?_ | exact Le.ic rfl | exact Le.bc rfl | exact Le.i rfl | exact Le.b rfl | exact Le.sl rfl | exact Le.mp rfl | exact Le.csl rfl | exact Le.cslsl rfl | exact Le.nils rfl (fun _ => ⟨trivial, trivial⟩) | refine Le.lst rfl (fun _ _ => rfl) (fun _ => ⟨trivial, trivial⟩) ?_ | refine Le.lst rfl (fun _ _ => rfl) (fun _ => ⟨fun _ => ⟨trivial, trivial⟩, trivial⟩) ?_ | exact Le.nils rfl (fun _ => ⟨fun _ => ⟨trivial, trivial⟩, trivial⟩) | exact Le.nils rfl (fun x => (cCm_ok x).1) | refine Le.lst rfl (fun _ _ => rfl) (fun x => (cCm_ok x).1) ?_ | refine Le.agg ?_ | refine Le.tup ?_ | refine Le.fn ?_ ?_ | refine Le.spt ?_ | exact Le.any _)))) (by ((try cbv) <;> (repeat' (first | with_reducible exact trivial | with_reducible refine And.intro ?_ ?_)) <;> (try first | exact SlotLe.refl _ | exact SlotLe.dyn rfl | exact SlotLe.map rfl | exact SlotLe.iter rfl rfl (.inl rfl) | exact SlotLe.iter rfl rfl (.inr rfl) | refine SlotLe.fix ?_ | refine SlotLe.dyn ?_) <;> ((repeat' first | exact LeL.nil | exact Le.refl _ | refine LeL.cons ?_ ?_ | exact Le.ic rfl | exact Le.bc rfl | exact Le.i rfl | exact Le.b rfl | exact Le.sl rfl | exact Le.mp rfl | exact Le.csl rfl | exact Le.cslsl rfl | exact Le.nils rfl (fun _ => ⟨trivial, trivial⟩) | refine Le.lst rfl (fun _ _ => rfl) (fun _ => ⟨trivial, trivial⟩) ?_ | refine Le.lst rfl (fun _ _ => rfl) (fun _ => ⟨fun _ => ⟨trivial, trivial⟩, trivial⟩) ?_ | exact Le.nils rfl (fun _ => ⟨fun _ => ⟨trivial, trivial⟩, trivial⟩) | exact Le.nils rfl (fun x => (cCm_ok x).1) | refine Le.lst rfl (fun _ _ => rfl) (fun x => (cCm_ok x).1) ?_ | refine Le.agg ?_ | refine Le.tup ?_ | refine Le.fn ?_ ?_ | refine Le.spt ?_ | exact Le.any _))) <;> exact eL) ⟨by omega, by simp⟩ ?_
        rintro k ⟨hk, htk⟩
        cbv
        refine ⟨fun h6 => ?_, fun h6 => ?_⟩
        · have h6 := h6.out
          have hltk : k < L.length := by simp [ltB] at h6; ((try simp only [Go.Vc.natc] at *); omega)
          obtain ⟨vb, hvb⟩ : ∃ v, L[k]? = some v := ⟨_, List.getElem?_eq_getElem hltk⟩
          have f1 : del vb = true → fi del L = (k : Int) := fi_at htk hvb
          have f2 : del vb = false → (L.take (k + 1)).any del = false := any_take htk hvb
          have hk2 : 0 ≤ (k : Int) ∧ ((k : Int)).toNat < L.length := ⟨Int.natCast_nonneg k, by simpa using hltk⟩
          have hvb2 : L[((k : Int)).toNat]? = some vb := by simpa using hvb
          cbv
          refine ⟨⟨hk2⟩, ?_⟩
          refine ⟨vb, ⟨hvb2, rfl⟩, ?_⟩
          cbv
          refine ⟨⟨L, above x.h, vb⟩, ⟨by ((repeat' first | exact LeL.nil | exact Le.refl _ | refine LeL.cons ?_ ?_ | exact Le.ic rfl | exact Le.bc rfl | exact Le.i rfl | exact Le.b rfl | exact Le.sl rfl | exact Le.mp rfl | exact Le.csl rfl | exact Le.cslsl rfl | exact Le.nils rfl (fun _ => ⟨trivial, trivial⟩) | refine Le.lst rfl (fun _ _ => rfl) (fun _ => ⟨trivial, trivial⟩) ?_ | refine Le.lst rfl (fun _ _ => rfl) (fun _ => ⟨fun _ => ⟨trivial, trivial⟩, trivial⟩) ?_ | exact Le.nils rfl (fun _ => ⟨fun _ => ⟨trivial, trivial⟩, trivial⟩) | exact Le.nils rfl (fun x => (cCm_ok x).1) | refine Le.lst rfl (fun _ _ => rfl) (fun x => (cCm_ok x).1) ?_ | refine Le.agg ?_ | refine Le.tup ?_ | refine Le.fn ?_ ?_ | refine Le.spt ?_ | exact Le.any _)), by show L.length < _; omega, rfl⟩, ?_⟩
          cbv
          refine ⟨fun h7 => ?_, fun h7 => ?_⟩
          · have h7 : del vb = true := (hdv vb).trans h7.out
            cbv
            refine ⟨fun h8 => ?_, fun h8 => ?_⟩
            · exfalso
              have h8 : eqB (k : Int) (-1) = true := h8.out
              simp [eqB] at h8
            · obtain ⟨_, hc0⟩ := del_first htk hvb h7
              have hk1 : k + 1 ≤ L.length := by omega
              cbv
              refine Sat.loopD ctx20_ok ctx20_inl (lv := 3) (by kernel_rfl) 11 5 [] (fun y : Nat × Nat × List Int => [(5, .i .i64 (fun _ => (y.2.1 : Int))), (6, .i .i64 (fun _ => (y.1 : Int)))]) (fun y => [(10, .dyn 27 1 cU64 (fun _ => y.2.2))])
                (fun y => y.1 ≤ L.length ∧ DelInv L (fun v => !del v) y.1 y.2.1 y.2.2) (fun y => L.length - y.1) (k + 1, k, L) (by ((try cbv) <;> (repeat' (first | with_reducible exact trivial | with_reducible refine And.intro ?_ ?_)) <;> (try first | exact SlotLe.refl _ | exact SlotLe.dyn rfl | exact SlotLe.map rfl | exact SlotLe.iter rfl rfl (.inl rfl) | exact SlotLe.iter rfl rfl (.inr rfl) | refine SlotLe.fix ?_ | refine SlotLe.dyn ?_) <;> ((repeat' first | exact LeL.nil | exact Le.refl _ | refine LeL.cons ?_ ?_ | exact Le.ic rfl | exact Le.bc rfl | exact Le.i rfl | exact Le.b rfl | exact Le.sl rfl | exact Le.mp rfl | exact Le.csl rfl | exact Le.cslsl rfl | exact Le.nils rfl (fun _ => ⟨trivial, trivial⟩) | refine Le.lst rfl (fun _ _ => rfl) (fun _ => ⟨trivial, trivial⟩) ?_ | refine Le.lst rfl (fun _ _ => rfl) (fun _ => ⟨fun _ => ⟨trivial, trivial⟩, trivial⟩) ?_ | exact Le.nils rfl (fun _ => ⟨fun _ => ⟨trivial, trivial⟩, trivial⟩) | exact Le.nils rfl (fun x => (cCm_ok x).1) | refine Le.lst rfl (fun _ _ => rfl) (fun x => (cCm_ok x).1) ?_ | refine Le.agg ?_ | refine Le.tup ?_ | refine Le.fn ?_ ?_ | refine Le.spt ?_ | exact Le.any _))) <;> (refine .i ?_; show IntKind.i64.wrap ((k : Int) + 1) = ((k + 1 : Nat) : Int); rw [w64 (by omega) (by omega)]; rfl)) (by ((try cbv) <;> (repeat' (first | with_reducible exact trivial | with_reducible refine And.intro ?_ ?_)) <;> (try first | exact SlotLe.refl _ | exact SlotLe.dyn rfl | exact SlotLe.map rfl | exact SlotLe.iter rfl rfl (.inl rfl) | exact SlotLe.iter rfl rfl (.inr rfl) | refine SlotLe.fix ?_ | refine SlotLe.dyn ?_) <;> ((repeat' first | exact LeL.nil | exact Le.refl _ | refine LeL.cons ?_ ?_ | exact Le.ic rfl | exact Le.bc rfl | exact Le.i rfl | exact Le.b rfl | exact Le.sl rfl | exact Le.mp rfl | exact Le.csl rfl | exact Le.cslsl rfl | exact Le.nils rfl (fun _ => ⟨trivial, trivial⟩) | refine Le.lst rfl (fun _ _ => rfl) (fun _ => ⟨trivial, trivial⟩) ?_ | refine Le.lst rfl (fun _ _ => rfl) (fun _ => ⟨fun _ => ⟨trivial, trivial⟩, trivial⟩) ?_ | exact Le.nils rfl (fun _ => ⟨fun _ => ⟨trivial, trivial⟩, trivial⟩) | exact Le.nils rfl (fun x => (cCm_ok x).1) | refine Le.lst rfl (fun _ _ => rfl) (fun x => (cCm_ok x).1) ?_ | refine Le.agg ?_ | refine Le.tup ?_ | refine Le.fn ?_ ?_ | refine Le.spt ?_ | exact Le.any _)))) ⟨hk1, hc0⟩ ?_
              rintro ⟨j, c, xs⟩ ⟨hj, hD⟩
              change j ≤ L.length at hj
              change DelInv L (fun v => !del v) j c xs at hD
              have hlen := hD.len
              have hltc := hD.lt
              cbv
              refine ⟨fun h9 => ?_, fun h9 => ?_⟩
              · have h9 := h9.out
                have hltj : j < xs.length := by simp [ltB] at h9; ((try simp only [Go.Vc.natc] at *); omega)
                obtain ⟨vc, hvc⟩ : ∃ v, xs[j]? = some v := ⟨_, List.getElem?_eq_getElem hltj⟩
                have hvL : L[j]? = some vc := by rw [← hD.at]; exact hvc
                have hj2 : 0 ≤ (j : Int) ∧ ((j : Int)).toNat < xs.length := ⟨Int.natCast_nonneg j, by simpa using hltj⟩
                have hvc2 : xs[((j : Int)).toNat]? = some vc := by simpa using hvc
                have hno : (!del vc) = false → DelInv L (fun v => !del v) (j + 1) c xs := hD.no hvL
                have hyes : (!del vc) = true → DelInv L (fun v => !del v) (j + 1) (c + 1) (xs.set c vc) := hD.yes hvL
                have hwc : IntKind.i64.wrap ((c : Int) + 1) = ((c + 1 : Nat) : Int) := by rw [w64 (by omega) (by omega)]; rfl
                have hwj : IntKind.i64.wrap ((j : Int) + 1) = ((j + 1 : Nat) : Int) := by rw [w64 (by omega) (by omega)]; rfl
                have hc2 : 0 ≤ (c : Int) ∧ ((c : Int)).toNat < xs.length := ⟨Int.natCast_nonneg c, by simp; omega⟩
                obtain ⟨vo, hvo⟩ : ∃ v, xs[c]? = some v := ⟨_, List.getElem?_eq_getElem (by omega)⟩
                have hvo2 : xs[((c : Int)).toNat]? = some vo := by simpa using hvo
                cbv
                refine ⟨⟨hj2⟩, ?_⟩
                refine ⟨vc, ⟨hvc2, rfl⟩, ?_⟩
                cbv
                refine ⟨⟨L, above x.h, vc⟩, ⟨by ((repeat' first | exact LeL.nil | exact Le.refl _ | refine LeL.cons ?_ ?_ | exact Le.ic rfl | exact Le.bc rfl | exact Le.i rfl | exact Le.b rfl | exact Le.sl rfl | exact Le.mp rfl | exact Le.csl rfl | exact Le.cslsl rfl | exact Le.nils rfl (fun _ => ⟨trivial, trivial⟩) | refine Le.lst rfl (fun _ _ => rfl) (fun _ => ⟨trivial, trivial⟩) ?_ | refine Le.lst rfl (fun _ _ => rfl) (fun _ => ⟨fun _ => ⟨trivial, trivial⟩, trivial⟩) ?_ | exact Le.nils rfl (fun _ => ⟨fun _ => ⟨trivial, trivial⟩, trivial⟩) | exact Le.nils rfl (fun x => (cCm_ok x).1) | refine Le.lst rfl (fun _ _ => rfl) (fun x => (cCm_ok x).1) ?_ | refine Le.agg ?_ | refine Le.tup ?_ | refine Le.fn ?_ ?_ | refine Le.spt ?_ | exact Le.any _)), by show L.length < _; omega, rfl⟩, ?_⟩
                cbv
                refine ⟨fun h7 => ?_, fun h7 => ?_⟩
                · have h7' : (!del vc) = true := (congrArg (!·) (hdv vc)).trans h7.out
                  have hyes := hyes h7'
                  cbv
                  refine ⟨⟨hc2⟩, ?_⟩
                  cbv
                  refine ⟨(vo, vc), ⟨hvo2, rfl, by ((repeat' first | exact LeL.nil | exact Le.refl _ | refine LeL.cons ?_ ?_ | exact Le.ic rfl | exact Le.bc rfl | exact Le.i rfl | exact Le.b rfl | exact Le.sl rfl | exact Le.mp rfl | exact Le.csl rfl | exact Le.cslsl rfl | exact Le.nils rfl (fun _ => ⟨trivial, trivial⟩) | refine Le.lst rfl (fun _ _ => rfl) (fun _ => ⟨trivial, trivial⟩) ?_ | refine Le.lst rfl (fun _ _ => rfl) (fun _ => ⟨fun _ => ⟨trivial, trivial⟩, trivial⟩) ?_ | exact Le.nils rfl (fun _ => ⟨fun _ => ⟨trivial, trivial⟩, trivial⟩) | exact Le.nils rfl (fun x => (cCm_ok x).1) | refine Le.lst rfl (fun _ _ => rfl) (fun x => (cCm_ok x).1) ?_ | refine Le.agg ?_ | refine Le.tup ?_ | refine Le.fn ?_ ?_ | refine Le.spt ?_ | exact Le.any _))⟩, ?_⟩
                  cbv
                  refine ⟨(j + 1, c + 1, xs.set c vc), by ((try cbv) <;> (repeat' (first | with_reducible exact trivial | with_reducible refine And.intro ?_ ?_)) <;> (try first | exact SlotLe.refl _ | exact SlotLe.dyn rfl | exact SlotLe.map rfl | exact SlotLe.iter rfl rfl (.inl rfl) | exact SlotLe.iter rfl rfl (.inr rfl) | refine SlotLe.fix ?_ | refine SlotLe.dyn ?_) <;> ((repeat' first | exact LeL.nil | exact Le.refl _ | refine LeL.cons ?_ ?_ | exact Le.ic rfl | exact Le.bc rfl | exact Le.i rfl | exact Le.b rfl | exact Le.sl rfl | exact Le.mp rfl | exact Le.csl rfl | exact Le.cslsl rfl | exact Le.nils rfl (fun _ => ⟨trivial, trivial⟩) | refine Le.lst rfl (fun _ _ => rfl) (fun _ => ⟨trivial, trivial⟩) ?_ | refine Le.lst rfl (fun _ _ => rfl) (fun _ => ⟨fun _ => ⟨trivial, trivial⟩, trivial⟩) ?_ | exact Le.nils rfl (fun _ => ⟨fun _ => ⟨trivial, trivial⟩, trivial⟩) | exact Le.nils rfl (fun x => (cCm_ok x).1) | refine Le.lst rfl (fun _ _ => rfl) (fun x => (cCm_ok x).1) ?_ | refine Le.agg ?_ | refine Le.tup ?_ | refine Le.fn ?_ ?_ | refine Le.spt ?_ | exact Le.any _))) <;> first | exact .i hwc | exact .i hwj, by ((try cbv) <;> (repeat' (first | with_reducible exact trivial | with_reducible refine And.intro ?_ ?_)) <;> (try first | exact SlotLe.refl _ | exact SlotLe.dyn rfl | exact SlotLe.map rfl | exact SlotLe.iter rfl rfl (.inl rfl) | exact SlotLe.iter rfl rfl (.inr rfl) | refine SlotLe.fix ?_ | refine SlotLe.dyn ?_) <;> ((repeat' first | exact LeL.nil | exact Le.refl _ | refine LeL.cons ?_ ?_ | exact Le.ic rfl | exact Le.bc rfl | exact Le.i rfl | exact Le.b rfl | exact Le.sl rfl | exact Le.mp rfl | exact Le.csl rfl | exact Le.cslsl rfl | exact Le.nils rfl (fun _ => ⟨trivial, trivial⟩) | refine Le.lst rfl (fun _ _ => rfl) (fun _ => ⟨trivial, trivial⟩) ?_ | refine Le.lst rfl (fun _ _ => rfl) (fun _ => ⟨fun _ => ⟨trivial, trivial⟩, trivial⟩) ?_ | exact Le.nils rfl (fun _ => ⟨fun _ => ⟨trivial, trivial⟩, trivial⟩) | exact Le.nils rfl (fun x => (cCm_ok x).1) | refine Le.lst rfl (fun _ _ => rfl) (fun x => (cCm_ok x).1) ?_ | refine Le.agg ?_ | refine Le.tup ?_ | refine Le.fn ?_ ?_ | refine Le.spt ?_ | exact Le.any _))), ⟨⟨?_, hyes⟩, ?_⟩⟩
                  · show j + 1 ≤ L.length; omega
                  · show L.length - (j + 1) < L.length - j; omega
                · have h7' : (!del vc) = false := (congrArg (!·) (hdv vc)).trans h7.out
                  have hno := hno h7'
                  cbv
                  refine ⟨(j + 1, c, xs), by ((try cbv) <;> (repeat' (first | with_reducible exact trivial | with_reducible refine And.intro ?_ ?_)) <;> (try first | exact SlotLe.refl _ | exact SlotLe.dyn rfl | exact SlotLe.map rfl | exact SlotLe.iter rfl rfl (.inl rfl) | exact SlotLe.iter rfl rfl (.inr rfl) | refine SlotLe.fix ?_ | refine SlotLe.dyn ?_) <;> ((repeat' first | exact LeL.nil | exact Le.refl _ | refine LeL.cons ?_ ?_ | exact Le.ic rfl | exact Le.bc rfl | exact Le.i rfl | exact Le.b rfl | exact Le.sl rfl | exact Le.mp rfl | exact Le.csl rfl | exact Le.cslsl rfl | exact Le.nils rfl (fun _ => ⟨trivial, trivial⟩) | refine Le.lst rfl (fun _ _ => rfl) (fun _ => ⟨trivial, trivial⟩) ?_ | refine Le.lst rfl (fun _ _ => rfl) (fun _ => ⟨fun _ => ⟨trivial, trivial⟩, trivial⟩) ?_ | exact Le.nils rfl (fun _ => ⟨fun _ => ⟨trivial, trivial⟩, trivial⟩) | exact Le.nils rfl (fun x => (cCm_ok x).1) | refine Le.lst rfl (fun _ _ => rfl) (fun x => (cCm_ok x).1) ?_ | refine Le.agg ?_ | refine Le.tup ?_ | refine Le.fn ?_ ?_ | refine Le.spt ?_ | exact Le.any _))) <;> exact .i hwj, by ((try cbv) <;> (repeat' (first | with_reducible exact trivial | with_reducible refine And.intro ?_ ?_)) <;> (try first | exact SlotLe.refl _ | exact SlotLe.dyn rfl | exact SlotLe.map rfl | exact SlotLe.iter rfl rfl (.inl rfl) | exact SlotLe.iter rfl rfl (.inr rfl) | refine SlotLe.fix ?_ | refine SlotLe.dyn ?_) <;> ((repeat' first | exact LeL.nil | exact Le.refl _ | refine LeL.cons ?_ ?_ | exact Le.ic rfl | exact Le.bc rfl | exact Le.i rfl | exact Le.b rfl | exact Le.sl rfl | exact Le.mp rfl | exact Le.csl rfl | exact Le.cslsl rfl | exact Le.nils rfl (fun _ => ⟨trivial, trivial⟩) | refine Le.lst rfl (fun _ _ => rfl) (fun _ => ⟨trivial, trivial⟩) ?_ | refine Le.lst rfl (fun _ _ => rfl) (fun _ => ⟨fun _ => ⟨trivial, trivial⟩, trivial⟩) ?_ | exact Le.nils rfl (fun _ => ⟨fun _ => ⟨trivial, trivial⟩, trivial⟩) | exact Le.nils rfl (fun x => (cCm_ok x).1) | refine Le.lst rfl (fun _ _ => rfl) (fun x => (cCm_ok x).1) ?_ | refine Le.agg ?_ | refine Le.tup ?_ | refine Le.fn ?_ ?_ | refine Le.spt ?_ | exact Le.any _))), ⟨⟨?_, hno⟩, ?_⟩⟩
                  · show j + 1 ≤ L.length; omega
                  · show L.length - (j + 1) < L.length - j; omega
              · have h9 := h9.out
                have hltj : ¬ j < xs.length := by simp [ltB] at h9; ((try simp only [Go.Vc.natc] at *); omega)
                have hjL : j = L.length := by omega
                subst hjL
                have hdone := hD.done
                have hcx : c ≤ xs.length := by omega
                have hs1 : 0 ≤ (c : Int) ∧ (c : Int) ≤ (xs.length : Int) ∧ (xs.length : Int) ≤ (xs.length : Int) := ⟨by omega, by omega, by omega⟩
                cbv
                refine ⟨⟨hs1⟩, ?_⟩
                refine ⟨(0 : Int), ⟨by ((repeat' first | exact LeL.nil | exact Le.refl _ | refine LeL.cons ?_ ?_ | exact Le.ic rfl | exact Le.bc rfl | exact Le.i rfl | exact Le.b rfl | exact Le.sl rfl | exact Le.mp rfl | exact Le.csl rfl | exact Le.cslsl rfl | exact Le.nils rfl (fun _ => ⟨trivial, trivial⟩) | refine Le.lst rfl (fun _ _ => rfl) (fun _ => ⟨trivial, trivial⟩) ?_ | refine Le.lst rfl (fun _ _ => rfl) (fun _ => ⟨fun _ => ⟨trivial, trivial⟩, trivial⟩) ?_ | exact Le.nils rfl (fun _ => ⟨fun _ => ⟨trivial, trivial⟩, trivial⟩) | exact Le.nils rfl (fun x => (cCm_ok x).1) | refine Le.lst rfl (fun _ _ => rfl) (fun x => (cCm_ok x).1) ?_ | refine Le.agg ?_ | refine Le.tup ?_ | refine Le.fn ?_ ?_ | refine Le.spt ?_ | exact Le.any _))⟩, ?_⟩
                cbv
                refine ⟨⟨cleared1 hcx⟩, ⟨.tup (.cons (.sl ?_) (.cons (.ic (by rw [hq])) .nil))⟩⟩
                rw [hq]
                exact (cleared2 hcx).trans hdone
          · have h7 : del vb = false := (hdv vb).trans h7.out
            have f2 := f2 h7
            cbv
            exact ⟨k + 1, by ((try cbv) <;> (repeat' (first | with_reducible exact trivial | with_reducible refine And.intro ?_ ?_)) <;> (try first | exact SlotLe.refl _ | exact SlotLe.dyn rfl | exact SlotLe.map rfl | exact SlotLe.iter rfl rfl (.inl rfl) | exact SlotLe.iter rfl rfl (.inr rfl) | refine SlotLe.fix ?_ | refine SlotLe.dyn ?_) <;> ((repeat' first | exact LeL.nil | exact Le.refl _ | refine LeL.cons ?_ ?_ | exact Le.ic rfl | exact Le.bc rfl | exact Le.i rfl | exact Le.b rfl | exact Le.sl rfl | exact Le.mp rfl | exact Le.csl rfl | exact Le.cslsl rfl | exact Le.nils rfl (fun _ => ⟨trivial, trivial⟩) | refine Le.lst rfl (fun _ _ => rfl) (fun _ => ⟨trivial, trivial⟩) ?_ | refine Le.lst rfl (fun _ _ => rfl) (fun _ => ⟨fun _ => ⟨trivial, trivial⟩, trivial⟩) ?_ | exact Le.nils rfl (fun _ => ⟨fun _ => ⟨trivial, trivial⟩, trivial⟩) | exact Le.nils rfl (fun x => (cCm_ok x).1) | refine Le.lst rfl (fun _ _ => rfl) (fun x => (cCm_ok x).1) ?_ | refine Le.agg ?_ | refine Le.tup ?_ | refine Le.fn ?_ ?_ | refine Le.spt ?_ | exact Le.any _))) <;> (refine .i ?_; show IntKind.i64.wrap ((k : Int) + 1) = ((k + 1 : Nat) : Int); rw [w64 (by omega) (by omega)]; rfl), by ((try cbv) <;> (repeat' (first | with_reducible exact trivial | with_reducible refine And.intro ?_ ?_)) <;> (try first | exact SlotLe.refl _ | exact SlotLe.dyn rfl | exact SlotLe.map rfl | exact SlotLe.iter rfl rfl (.inl rfl) | exact SlotLe.iter rfl rfl (.inr rfl) | refine SlotLe.fix ?_ | refine SlotLe.dyn ?_) <;> ((repeat' first | exact LeL.nil | exact Le.refl _ | refine LeL.cons ?_ ?_ | exact Le.ic rfl | exact Le.bc rfl | exact Le.i rfl | exact Le.b rfl | exact Le.sl rfl | exact Le.mp rfl | exact Le.csl rfl | exact Le.cslsl rfl | exact Le.nils rfl (fun _ => ⟨trivial, trivial⟩) | refine Le.lst rfl (fun _ _ => rfl) (fun _ => ⟨trivial, trivial⟩) ?_ | refine Le.lst rfl (fun _ _ => rfl) (fun _ => ⟨fun _ => ⟨trivial, trivial⟩, trivial⟩) ?_ | exact Le.nils rfl (fun _ => ⟨fun _ => ⟨trivial, trivial⟩, trivial⟩) | exact Le.nils rfl (fun x => (cCm_ok x).1) | refine Le.lst rfl (fun _ _ => rfl) (fun x => (cCm_ok x).1) ?_ | refine Le.agg ?_ | refine Le.tup ?_ | refine Le.fn ?_ ?_ | refine Le.spt ?_ | exact Le.any _))), ⟨⟨hltk, f2⟩, by show L.length - (k + 1) < L.length - k; omega⟩⟩
        · have h6 := h6.out
          have hltk : ¬ k < L.length := by simp [ltB] at h6; ((try simp only [Go.Vc.natc] at *); omega)
          rw [List.take_of_length_le (by omega)] at htk
          have hfa : L.filter (fun y => !del y) = L := List.filter_eq_self.2 fun y hy => by
            have := List.any_eq_false.1 htk y hy
            simpa using this
          rw [hfa] at hq
          cbv
          exact ⟨.tup (.cons (.sl (by rw [hq])) (.cons (.ic (by rw [hq])) .nil))⟩


end Go.Proofs.Hist
