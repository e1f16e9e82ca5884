/-
  The transport's functions, ninth part: links that are generated.
-/
import Derived.Test.YtcejljfammcflaaTranI
set_option linter.unusedVariables false
set_option linter.unusedSimpArgs false
set_option maxRecDepth 10000
set_option maxHeartbeats 1000000
namespace Go.Proofs.Tran
open Go Go.Vc

noncomputable def sp15 : List (Nat × Vc.Spec) := (44, ReceiveS) :: (26, ReceiveInS) :: sp14
theorem sp15_ok : All (fun f S => SpecOk (PP ()) f S) sp15 := ⟨Receive_ok, RReceiveIn_ok, sp14_ok⟩
noncomputable def ctx15 : Ctx := { tt := tt, el := el, sp := fun f => tab sp15 f, inl := fun f => tab inl3 f }
theorem ctx15_ok : ctx15.Ok (PP ()) := ⟨tt_ok, el_ok ctx15 rfl, tab_all sp15_ok, fun f fn h => (tab_all inl3_ok f fn h).1, mixed⟩
theorem ctx15_inl : InlOk ctx15 := fun f fn h => (tab_all inl3_ok f fn h).2
theorem received_ok : SpecOk (PP ()) 25 ReceiveInS := by
  refine spec_of_vc (lv := 3) ctx15_ok ctx15_inl (fnOk_of Try.func25 (by kernel_rfl)) (by kernel_rfl) (fun a => ⟨Lk.lf fun _ => a.l, Pk.lf fun _ => a.p, trivial⟩) (fun a => Lk.elf (fun _ => recL a.l a.p) fun _ => recE a.l a.p) ?_
  intro x hx
  refine ⟨?_⟩
  cbv
  refine ⟨x, ⟨by ((repeat' first | exact LeL.nil | exact Le.refl _ | refine LeL.cons ?_ ?_ | exact Le.ic rfl | exact Le.bc rfl | exact Le.i rfl | exact Le.b rfl | exact Le.sl rfl | exact Le.nils rfl (fun _ => ⟨trivial, trivial⟩) | refine Le.lst rfl (fun _ _ => rfl) (fun _ => ⟨trivial, trivial⟩) ?_ | refine Le.lst rfl (fun _ _ => rfl) (fun _ => ⟨fun _ => ⟨trivial, trivial⟩, trivial⟩) ?_ | exact Le.nils rfl (fun _ => ⟨fun _ => ⟨trivial, trivial⟩, trivial⟩) | refine Le.agg ?_ | refine Le.tup ?_ | exact Le.any _)), hx⟩, ?_⟩
  cbv
  refine ⟨.agg ?_⟩
  ((repeat' first | exact LeL.nil | exact Le.refl _ | refine LeL.cons ?_ ?_ | exact Le.ic rfl | exact Le.bc rfl | exact Le.i rfl | exact Le.b rfl | exact Le.sl rfl | exact Le.nils rfl (fun _ => ⟨trivial, trivial⟩) | refine Le.lst rfl (fun _ _ => rfl) (fun _ => ⟨trivial, trivial⟩) ?_ | refine Le.lst rfl (fun _ _ => rfl) (fun _ => ⟨fun _ => ⟨trivial, trivial⟩, trivial⟩) ?_ | exact Le.nils rfl (fun _ => ⟨fun _ => ⟨trivial, trivial⟩, trivial⟩) | refine Le.agg ?_ | refine Le.tup ?_ | exact Le.any _))
structure LE2 where
  a : Lk
  e : Int
  b : Lk
  f : Int
def alikeS : Vc.Spec where
  α := LE2
  args x := [.agg (Lk.ecells (fun _ => x.a) fun _ => x.e), .agg (Lk.ecells (fun _ => x.b) fun _ => x.f)]
  pre x := Bs x.a.out ∧ Bs x.a.ins
  res x := .b (fun _ => eqB x.e x.f && x.a.same x.b)
theorem alike_ok : SpecOk (PP ()) 22 alikeS := by
  refine spec_of_vc (lv := 3) ctx15_ok ctx15_inl (fnOk_of Try.func22 (by kernel_rfl)) (by kernel_rfl) (fun a => ⟨Lk.elf (fun _ => a.a) fun _ => a.e, Lk.elf (fun _ => a.b) fun _ => a.f, trivial⟩) (fun a => trivial) ?_
  intro x hx
  refine ⟨?_⟩
  cbv
  refine ⟨fun e => ?_, fun e => ?_⟩
  · have e : eqB x.e x.f = true := e.out
    cbv
    refine ⟨⟨x.a, x.b⟩, ⟨by ((repeat' first | exact LeL.nil | exact Le.refl _ | refine LeL.cons ?_ ?_ | exact Le.ic rfl | exact Le.bc rfl | exact Le.i rfl | exact Le.b rfl | exact Le.sl rfl | exact Le.nils rfl (fun _ => ⟨trivial, trivial⟩) | refine Le.lst rfl (fun _ _ => rfl) (fun _ => ⟨trivial, trivial⟩) ?_ | refine Le.lst rfl (fun _ _ => rfl) (fun _ => ⟨fun _ => ⟨trivial, trivial⟩, trivial⟩) ?_ | exact Le.nils rfl (fun _ => ⟨fun _ => ⟨trivial, trivial⟩, trivial⟩) | refine Le.agg ?_ | refine Le.tup ?_ | exact Le.any _)), hx⟩, ?_⟩
    cbv
    exact ⟨.b (by rw [e]; rfl)⟩
  · have e : eqB x.e x.f = false := e.out
    cbv
    exact ⟨.bc (by rw [e]; rfl)⟩
noncomputable def pairA (k : Int) : Lk := ⟨k, [], 0, [], 0⟩
noncomputable def PairS : Vc.Spec where
  α := Int
  args k := [.i .u64 (fun _ => k)]
  pre k := True
  res k := .tup [.agg (Lk.cells fun _ => pairA k), .agg (Lk.cells fun _ => pairA (oth k))]
theorem Pair_ok : SpecOk (PP ()) 13 PairS := by
  refine spec_of_vc (lv := 3) ctx15_ok ctx15_inl (fnOk_of Try.func13 (by kernel_rfl)) (by kernel_rfl) (fun a => ⟨trivial, trivial⟩) (fun a => ⟨Lk.lf fun _ => pairA a, Lk.lf fun _ => pairA (oth a), trivial⟩) ?_
  intro x hx
  change Int at x
  refine ⟨?_⟩
  cbv
  rw [oth_eq]
  refine ⟨.tup ?_⟩
  ((repeat' first | exact LeL.nil | exact Le.refl _ | refine LeL.cons ?_ ?_ | exact Le.ic rfl | exact Le.bc rfl | exact Le.i rfl | exact Le.b rfl | exact Le.sl rfl | exact Le.nils rfl (fun _ => ⟨trivial, trivial⟩) | refine Le.lst rfl (fun _ _ => rfl) (fun _ => ⟨trivial, trivial⟩) ?_ | refine Le.lst rfl (fun _ _ => rfl) (fun _ => ⟨fun _ => ⟨trivial, trivial⟩, trivial⟩) ?_ | exact Le.nils rfl (fun _ => ⟨fun _ => ⟨trivial, trivial⟩, trivial⟩) | refine Le.agg ?_ | refine Le.tup ?_ | exact Le.any _))
theorem take_min (d : List Int) : d.take (min (d.length : Int) 6).toNat = d.take 6 := by
  by_cases h : d.length ≤ 6
  · rw [List.take_of_length_le (by omega), List.take_of_length_le h]
  · rw [show (min (d.length : Int) 6).toNat = 6 by omega]
def DataS : Vc.Spec where
  α := Ac
  args a := [.agg (cAc a)]
  pre a := True
  res a := .sl 1 cU8 (fun _ => a.d.take 6)
theorem Data_ok : SpecOk (PP ()) 46 DataS := by
  refine spec_of_vc (lv := 3) ctx15_ok ctx15_inl (fnOk_of Try.func46 (by kernel_rfl)) (by kernel_rfl) (fun a => ⟨⟨trivial, trivial, fun y => (cU8_ok y).1, trivial⟩, trivial⟩) (fun a => fun y => (cU8_ok y).1) ?_
  intro x hx
  change Ac at x
  refine ⟨?_⟩
  cbv
  refine ⟨⟨by show (0 : Int) ≤ 0 ∧ (0 : Int) ≤ min (x.d.length : Int) 6 ∧ min (x.d.length : Int) 6 ≤ (x.d.length : Int); omega⟩, ?_⟩
  exact ⟨.sl (by show (x.d.take (min (x.d.length : Int) 6).toNat).drop 0 = x.d.take 6; rw [List.drop_zero]; exact take_min x.d)⟩

/-! ### Links that are generated -/
def oiN (b : List Int) : Nat → List (List Int) × List (List Int)
  | 0 => ([], [])
  | i + 1 => if (b.getD i 0) % 2 = 0 ∧ (oiN b i).1.length < 32 then ((oiN b i).1 ++ [b.take (i % 5)], (oiN b i).2) else ((oiN b i).1, (oiN b i).2 ++ [b.take (i % 4)])
def lkF (key : Int) (b : List Int) : Lk :=
  let o := (oiN b (min b.length 40)).1
  let n := (oiN b (min b.length 40)).2
  if 2 < b.length then
    if b.getD 2 0 % 8 = 7 then ⟨key, o, 1000000000 - (o.length : Int) - b.getD 0 0 % 2, n, 1000000000 - b.getD 1 0 % 2⟩ else ⟨key, o, b.getD 0 0, n, (n.length : Int) + b.getD 1 0⟩
  else ⟨key, o, 0, n, (n.length : Int)⟩
theorem oiN_len (b : List Int) : ∀ i, (oiN b i).1.length ≤ i ∧ (oiN b i).2.length ≤ i ∧ (oiN b i).1.length ≤ 32
  | 0 => by simp [oiN]
  | i + 1 => by
    have h := oiN_len b i
    unfold oiN
    split
    · simp only [List.length_append, List.length_cons, List.length_nil]; omega
    · simp only [List.length_append, List.length_cons, List.length_nil]; omega
theorem oiN_yes {b : List Int} {i : Nat} {v : Int} (hv : b[i]? = some v) (h1 : v % 2 = 0) (h2 : (oiN b i).1.length < 32) : (oiN b (i + 1)).1 = (oiN b i).1 ++ [b.take (i % 5)] ∧ (oiN b (i + 1)).2 = (oiN b i).2 := by
  have : b.getD i 0 = v := by rw [List.getD_eq_getElem?_getD, hv]; rfl
  simp only [oiN, this]
  rw [if_pos ⟨h1, h2⟩]
  exact ⟨rfl, rfl⟩
theorem oiN_no {b : List Int} {i : Nat} {v : Int} (hv : b[i]? = some v) (h : ¬ (v % 2 = 0 ∧ (oiN b i).1.length < 32)) : (oiN b (i + 1)).1 = (oiN b i).1 ∧ (oiN b (i + 1)).2 = (oiN b i).2 ++ [b.take (i % 4)] := by
  have : b.getD i 0 = v := by rw [List.getD_eq_getElem?_getD, hv]; rfl
  simp only [oiN, this]
  rw [if_neg h]
  exact ⟨rfl, rfl⟩
theorem getD_of {b : List Int} {i : Nat} {v : Int} (h : b[i]? = some v) : b.getD i 0 = v := by rw [List.getD_eq_getElem?_getD, h]; rfl
section
variable {k : Int} {b : List Int} {b0 b1 b2 : Int}
theorem lkF_a (h2 : 2 < b.length) (hb0 : b[0]? = some b0) (hb1 : b[1]? = some b1) (hb2 : b[2]? = some b2) (h : b2 % 8 = 7) :
    lkF k b = ⟨k, (oiN b (min b.length 40)).1, 1000000000 - ((oiN b (min b.length 40)).1.length : Int) - b0 % 2, (oiN b (min b.length 40)).2, 1000000000 - b1 % 2⟩ := by
  simp only [lkF, getD_of hb0, getD_of hb1, getD_of hb2]
  rw [if_pos h2, if_pos h]
theorem lkF_b (h2 : 2 < b.length) (hb0 : b[0]? = some b0) (hb1 : b[1]? = some b1) (hb2 : b[2]? = some b2) (h : ¬ b2 % 8 = 7) :
    lkF k b = ⟨k, (oiN b (min b.length 40)).1, b0, (oiN b (min b.length 40)).2, ((oiN b (min b.length 40)).2.length : Int) + b1⟩ := by
  simp only [lkF, getD_of hb0, getD_of hb1, getD_of hb2]
  rw [if_pos h2, if_neg h]
theorem lkF_c (h2 : ¬ 2 < b.length) : lkF k b = ⟨k, (oiN b (min b.length 40)).1, 0, (oiN b (min b.length 40)).2, ((oiN b (min b.length 40)).2.length : Int)⟩ := by
  simp only [lkF]
  rw [if_neg h2]
end
theorem num1 {n : Nat} (h : n ≤ 32) {v : Int} (h0 : 0 ≤ v) (h1 : v < 256) : IntKind.i64.wrap (IntKind.i64.wrap (1000000000 - (n : Int)) - IntKind.i64.wrap (v.tmod 2)) = 1000000000 - (n : Int) - v % 2 := by
  rw [Int.tmod_eq_emod_of_nonneg h0, w64 (n := 1000000000 - (n : Int)) (by omega) (by omega), w64 (n := v % 2) (by omega) (by omega), w64 (by omega) (by omega)]
theorem num2 {v : Int} (h0 : 0 ≤ v) (h1 : v < 256) : IntKind.i64.wrap (1000000000 - IntKind.i64.wrap (v.tmod 2)) = 1000000000 - v % 2 := by
  rw [Int.tmod_eq_emod_of_nonneg h0, w64 (n := v % 2) (by omega) (by omega), w64 (by omega) (by omega)]
theorem num3 {v : Int} (h0 : 0 ≤ v) (h1 : v < 256) : IntKind.i64.wrap v = v := w64 (by omega) (by omega)
theorem num4 {n i : Nat} (h : n ≤ i) (hi : i ≤ 40) {v : Int} (h0 : 0 ≤ v) (h1 : v < 256) : IntKind.i64.wrap ((n : Int) + IntKind.i64.wrap v) = (n : Int) + v := by
  rw [num3 h0 h1, w64 (by omega) (by omega)]
structure KB where
  k : Int
  b : List Int
def LinkS : Vc.Spec where
  α := KB
  args x := [.i .u64 (fun _ => x.k), .sl 1 cU8 (fun _ => x.b)]
  pre x := True ∧ ∀ v ∈ x.b, 0 ≤ v ∧ v < 256
  res x := .agg (Lk.cells fun _ => lkF x.k x.b)
theorem Link_ok : SpecOk (PP ()) 12 LinkS := by
  refine spec_of_vc (lv := 3) ctx15_ok ctx15_inl (fnOk_of Try.func12 (by kernel_rfl)) (by kernel_rfl) (fun a => ⟨trivial, fun y => (cU8_ok y).1, trivial⟩) (fun a => Lk.lf fun _ => lkF a.k a.b) ?_
  intro x hx
  have hx : True ∧ ∀ v ∈ x.b, 0 ≤ v ∧ v < 256 := hx
  refine ⟨?_⟩
  cbv
  refine Sat.adoptc 1 1 23 1 eltB cB_ok rfl rfl ?_
  refine Sat.adoptc 1 3 23 1 eltB cB_ok rfl rfl ?_
  refine Sat.loop ctx15_ok ctx15_inl (lv := 3) (by kernel_rfl) 4 [(.c 1 1, 2), (.c 1 3, 3)] (fun i : Nat => ⟨[.i .u64 (fun _ => x.k), .sl 1 cU8 (fun _ => x.b), .any, .any, .ptr 0 0, .ptr 1 0, .i .i64 (fun _ => (i : Int))] ++ anys 86,
      [.fix 26 (anys 5), .fix 26 [.i .u64 (fun _ => x.k), .own 2, .ic .i64 0, .own 3, .ic .i64 0], .dyn 23 1 cB (fun _ => (oiN x.b i).1), .dyn 23 1 cB (fun _ => (oiN x.b i).2)]⟩)
    (fun i => i ≤ x.b.length ∧ i ≤ 40) (fun i => 40 - i) 0 (by ((try cbv) <;> (repeat' (first | with_reducible exact trivial | with_reducible refine And.intro ?_ ?_)) <;> (try first | exact SlotLe.refl _ | exact SlotLe.dyn rfl | refine SlotLe.fix ?_ | refine SlotLe.dyn ?_) <;> ((repeat' first | exact LeL.nil | exact Le.refl _ | refine LeL.cons ?_ ?_ | exact Le.ic rfl | exact Le.bc rfl | exact Le.i rfl | exact Le.b rfl | exact Le.sl rfl | exact Le.nils rfl (fun _ => ⟨trivial, trivial⟩) | refine Le.lst rfl (fun _ _ => rfl) (fun _ => ⟨trivial, trivial⟩) ?_ | refine Le.lst rfl (fun _ _ => rfl) (fun _ => ⟨fun _ => ⟨trivial, trivial⟩, trivial⟩) ?_ | exact Le.nils rfl (fun _ => ⟨fun _ => ⟨trivial, trivial⟩, trivial⟩) | refine Le.agg ?_ | refine Le.tup ?_ | exact Le.any _))) <;> exact .ic rfl) (by ((try cbv) <;> (repeat' (first | with_reducible exact trivial | with_reducible refine And.intro ?_ ?_)) <;> (try first | exact SlotLe.refl _ | exact SlotLe.dyn rfl | refine SlotLe.fix ?_ | refine SlotLe.dyn ?_) <;> ((repeat' first | exact LeL.nil | exact Le.refl _ | refine LeL.cons ?_ ?_ | exact Le.ic rfl | exact Le.bc rfl | exact Le.i rfl | exact Le.b rfl | exact Le.sl rfl | exact Le.nils rfl (fun _ => ⟨trivial, trivial⟩) | refine Le.lst rfl (fun _ _ => rfl) (fun _ => ⟨trivial, trivial⟩) ?_ | refine Le.lst rfl (fun _ _ => rfl) (fun _ => ⟨fun _ => ⟨trivial, trivial⟩, trivial⟩) ?_ | exact Le.nils rfl (fun _ => ⟨fun _ => ⟨trivial, trivial⟩, trivial⟩) | refine Le.agg ?_ | refine Le.tup ?_ | exact Le.any _)))) ⟨by omega, by omega⟩ ?_
  intro i hi
  have hi : i ≤ x.b.length ∧ i ≤ 40 := hi
  have hlen := oiN_len x.b i
  obtain ⟨o, ho⟩ : ∃ o, o = (oiN x.b i).1 := ⟨_, rfl⟩
  obtain ⟨n, hn'⟩ : ∃ n, n = (oiN x.b i).2 := ⟨_, rfl⟩
  have ol : o.length ≤ 40 := by rw [ho]; omega
  have nl : n.length ≤ 40 := by rw [hn']; omega
  cbv
  refine ⟨fun h => ?_, fun h => ?_⟩
  · have h := h.out
    have hlt : i < x.b.length := by simp [ltB] at h; ((try simp only [Go.Vc.natc] at *); omega)
    cbv
    refine ⟨fun h => ?_, fun h => ?_⟩
    · have h := h.out
      have hlt2 : i < 40 := by simp [ltB] at h; ((try simp only [Go.Vc.natc] at *); omega)
      have hex : ∃ v, x.b[i]? = some v := ⟨_, List.getElem?_eq_getElem hlt⟩
      have hi0 : (0 : Int) ≤ (i : Int) := Int.natCast_nonneg _
      have hi1 : IntKind.i64.wrap ((i : Int) + 1) = ((i + 1 : Nat) : Int) := by rw [w64 (by ((try simp only [Go.Vc.natc] at *); omega)) (by ((try simp only [Go.Vc.natc] at *); omega))]; rfl
      have hm5 : (i : Int).tmod 5 ≤ (x.b.length : Int) := by rw [Int.tmod_eq_emod_of_nonneg hi0]; omega
      have hm4 : (i : Int).tmod 4 ≤ (x.b.length : Int) := by rw [Int.tmod_eq_emod_of_nonneg hi0]; omega
      have ht5 : (x.b.take ((i : Int).tmod 5).toNat).drop 0 = x.b.take (i % 5) := by rw [Int.tmod_eq_emod_of_nonneg hi0, List.drop_zero]; congr 1
      have ht4 : (x.b.take ((i : Int).tmod 4).toNat).drop 0 = x.b.take (i % 4) := by rw [Int.tmod_eq_emod_of_nonneg hi0, List.drop_zero]; congr 1
      cbv
      obtain ⟨v, hv⟩ := hex
      have hv0 := hx.2 v (List.mem_of_getElem? hv)
      refine ⟨v, ⟨hi0, hv⟩, ⟨by decide⟩, ?_⟩
      cbv
      -- the walk
      refine ⟨fun h => ?_, fun h => ?_⟩
      · have h := h.out
        have hp : v % 2 = 0 := by rw [← Int.tmod_eq_emod_of_nonneg hv0.1]; simpa [eqB] using h
        cbv
        refine ⟨fun h => ?_, fun h => ?_⟩
        · have h : ltB ((oiN x.b i).1.length : Int) 32 = true := h.out
          have hy := oiN_yes hv hp (by simp [ltB] at h; ((try simp only [Go.Vc.natc] at *); omega))
          cbv
          refine ⟨⟨by decide⟩, ⟨by show (0 : Int) ≤ 0 ∧ (0 : Int) ≤ (i : Int).tmod 5 ∧ (i : Int).tmod 5 ≤ (x.b.length : Int); exact ⟨Int.le_refl _, Int.tmod_nonneg _ hi0, hm5⟩⟩, ?_⟩
          cbv
          refine ⟨[x.b.take (i % 5)], ⟨by cbv; ((repeat' first | exact LeL.nil | exact Le.refl _ | refine LeL.cons ?_ ?_ | exact Le.ic rfl | exact Le.bc rfl | exact Le.i rfl | exact Le.b rfl | exact Le.sl rfl | exact Le.nils rfl (fun _ => ⟨trivial, trivial⟩) | refine Le.lst rfl (fun _ _ => rfl) (fun _ => ⟨trivial, trivial⟩) ?_ | refine Le.lst rfl (fun _ _ => rfl) (fun _ => ⟨fun _ => ⟨trivial, trivial⟩, trivial⟩) ?_ | exact Le.nils rfl (fun _ => ⟨fun _ => ⟨trivial, trivial⟩, trivial⟩) | refine Le.agg ?_ | refine Le.tup ?_ | exact Le.any _)) <;> exact .sl ht5, by show ((oiN x.b i).1.length + 1) * 24 ≤ _ ∧ (oiN x.b i).1.length + 1 ≤ _; omega⟩, ?_⟩
          cbv
          refine ⟨i + 1, by ((try cbv) <;> (repeat' (first | with_reducible exact trivial | with_reducible refine And.intro ?_ ?_)) <;> (try first | exact SlotLe.refl _ | exact SlotLe.dyn rfl | refine SlotLe.fix ?_ | refine SlotLe.dyn ?_) <;> ((repeat' first | exact LeL.nil | exact Le.refl _ | refine LeL.cons ?_ ?_ | exact Le.ic rfl | exact Le.bc rfl | exact Le.i rfl | exact Le.b rfl | exact Le.sl rfl | exact Le.nils rfl (fun _ => ⟨trivial, trivial⟩) | refine Le.lst rfl (fun _ _ => rfl) (fun _ => ⟨trivial, trivial⟩) ?_ | refine Le.lst rfl (fun _ _ => rfl) (fun _ => ⟨fun _ => ⟨trivial, trivial⟩, trivial⟩) ?_ | exact Le.nils rfl (fun _ => ⟨fun _ => ⟨trivial, trivial⟩, trivial⟩) | refine Le.agg ?_ | refine Le.tup ?_ | exact Le.any _))) <;> exact .i hi1, by ((try cbv) <;> (repeat' (first | with_reducible exact trivial | with_reducible refine And.intro ?_ ?_)) <;> (try first | exact SlotLe.refl _ | exact SlotLe.dyn rfl | refine SlotLe.fix ?_ | refine SlotLe.dyn ?_) <;> ((repeat' first | exact LeL.nil | exact Le.refl _ | refine LeL.cons ?_ ?_ | exact Le.ic rfl | exact Le.bc rfl | exact Le.i rfl | exact Le.b rfl | exact Le.sl rfl | exact Le.nils rfl (fun _ => ⟨trivial, trivial⟩) | refine Le.lst rfl (fun _ _ => rfl) (fun _ => ⟨trivial, trivial⟩) ?_ | refine Le.lst rfl (fun _ _ => rfl) (fun _ => ⟨fun _ => ⟨trivial, trivial⟩, trivial⟩) ?_ | exact Le.nils rfl (fun _ => ⟨fun _ => ⟨trivial, trivial⟩, trivial⟩) | refine Le.agg ?_ | refine Le.tup ?_ | exact Le.any _))) <;> first | exact hy.1.symm | exact hy.2.symm, ⟨by show (i + 1 ≤ x.b.length ∧ i + 1 ≤ 40) ∧ 40 - (i + 1) < 40 - i; omega⟩⟩
        · have h : ltB ((oiN x.b i).1.length : Int) 32 = false := h.out
          have hy := oiN_no hv (fun q => by have := q.2; simp [ltB] at h; omega)
          cbv
          refine ⟨⟨by decide⟩, ⟨by show (0 : Int) ≤ 0 ∧ (0 : Int) ≤ (i : Int).tmod 4 ∧ (i : Int).tmod 4 ≤ (x.b.length : Int); exact ⟨Int.le_refl _, Int.tmod_nonneg _ hi0, hm4⟩⟩, ?_⟩
          cbv
          refine ⟨[x.b.take (i % 4)], ⟨by cbv; ((repeat' first | exact LeL.nil | exact Le.refl _ | refine LeL.cons ?_ ?_ | exact Le.ic rfl | exact Le.bc rfl | exact Le.i rfl | exact Le.b rfl | exact Le.sl rfl | exact Le.nils rfl (fun _ => ⟨trivial, trivial⟩) | refine Le.lst rfl (fun _ _ => rfl) (fun _ => ⟨trivial, trivial⟩) ?_ | refine Le.lst rfl (fun _ _ => rfl) (fun _ => ⟨fun _ => ⟨trivial, trivial⟩, trivial⟩) ?_ | exact Le.nils rfl (fun _ => ⟨fun _ => ⟨trivial, trivial⟩, trivial⟩) | refine Le.agg ?_ | refine Le.tup ?_ | exact Le.any _)) <;> exact .sl ht4, by show ((oiN x.b i).2.length + 1) * 24 ≤ _ ∧ (oiN x.b i).2.length + 1 ≤ _; omega⟩, ?_⟩
          cbv
          refine ⟨i + 1, by ((try cbv) <;> (repeat' (first | with_reducible exact trivial | with_reducible refine And.intro ?_ ?_)) <;> (try first | exact SlotLe.refl _ | exact SlotLe.dyn rfl | refine SlotLe.fix ?_ | refine SlotLe.dyn ?_) <;> ((repeat' first | exact LeL.nil | exact Le.refl _ | refine LeL.cons ?_ ?_ | exact Le.ic rfl | exact Le.bc rfl | exact Le.i rfl | exact Le.b rfl | exact Le.sl rfl | exact Le.nils rfl (fun _ => ⟨trivial, trivial⟩) | refine Le.lst rfl (fun _ _ => rfl) (fun _ => ⟨trivial, trivial⟩) ?_ | refine Le.lst rfl (fun _ _ => rfl) (fun _ => ⟨fun _ => ⟨trivial, trivial⟩, trivial⟩) ?_ | exact Le.nils rfl (fun _ => ⟨fun _ => ⟨trivial, trivial⟩, trivial⟩) | refine Le.agg ?_ | refine Le.tup ?_ | exact Le.any _))) <;> exact .i hi1, by ((try cbv) <;> (repeat' (first | with_reducible exact trivial | with_reducible refine And.intro ?_ ?_)) <;> (try first | exact SlotLe.refl _ | exact SlotLe.dyn rfl | refine SlotLe.fix ?_ | refine SlotLe.dyn ?_) <;> ((repeat' first | exact LeL.nil | exact Le.refl _ | refine LeL.cons ?_ ?_ | exact Le.ic rfl | exact Le.bc rfl | exact Le.i rfl | exact Le.b rfl | exact Le.sl rfl | exact Le.nils rfl (fun _ => ⟨trivial, trivial⟩) | refine Le.lst rfl (fun _ _ => rfl) (fun _ => ⟨trivial, trivial⟩) ?_ | refine Le.lst rfl (fun _ _ => rfl) (fun _ => ⟨fun _ => ⟨trivial, trivial⟩, trivial⟩) ?_ | exact Le.nils rfl (fun _ => ⟨fun _ => ⟨trivial, trivial⟩, trivial⟩) | refine Le.agg ?_ | refine Le.tup ?_ | exact Le.any _))) <;> first | exact hy.1.symm | exact hy.2.symm, ⟨by show (i + 1 ≤ x.b.length ∧ i + 1 ≤ 40) ∧ 40 - (i + 1) < 40 - i; omega⟩⟩
      · have h := h.out
        have hp : ¬ v % 2 = 0 := by rw [← Int.tmod_eq_emod_of_nonneg hv0.1]; simpa [eqB] using h
        have hy := oiN_no hv (fun q => hp q.1)
        cbv
        refine ⟨⟨by decide⟩, ⟨by show (0 : Int) ≤ 0 ∧ (0 : Int) ≤ (i : Int).tmod 4 ∧ (i : Int).tmod 4 ≤ (x.b.length : Int); exact ⟨Int.le_refl _, Int.tmod_nonneg _ hi0, hm4⟩⟩, ?_⟩
        cbv
        refine ⟨[x.b.take (i % 4)], ⟨by cbv; ((repeat' first | exact LeL.nil | exact Le.refl _ | refine LeL.cons ?_ ?_ | exact Le.ic rfl | exact Le.bc rfl | exact Le.i rfl | exact Le.b rfl | exact Le.sl rfl | exact Le.nils rfl (fun _ => ⟨trivial, trivial⟩) | refine Le.lst rfl (fun _ _ => rfl) (fun _ => ⟨trivial, trivial⟩) ?_ | refine Le.lst rfl (fun _ _ => rfl) (fun _ => ⟨fun _ => ⟨trivial, trivial⟩, trivial⟩) ?_ | exact Le.nils rfl (fun _ => ⟨fun _ => ⟨trivial, trivial⟩, trivial⟩) | refine Le.agg ?_ | refine Le.tup ?_ | exact Le.any _)) <;> exact .sl ht4, by show ((oiN x.b i).2.length + 1) * 24 ≤ _ ∧ (oiN x.b i).2.length + 1 ≤ _; omega⟩, ?_⟩
        cbv
        refine ⟨i + 1, by ((try cbv) <;> (repeat' (first | with_reducible exact trivial | with_reducible refine And.intro ?_ ?_)) <;> (try first | exact SlotLe.refl _ | exact SlotLe.dyn rfl | refine SlotLe.fix ?_ | refine SlotLe.dyn ?_) <;> ((repeat' first | exact LeL.nil | exact Le.refl _ | refine LeL.cons ?_ ?_ | exact Le.ic rfl | exact Le.bc rfl | exact Le.i rfl | exact Le.b rfl | exact Le.sl rfl | exact Le.nils rfl (fun _ => ⟨trivial, trivial⟩) | refine Le.lst rfl (fun _ _ => rfl) (fun _ => ⟨trivial, trivial⟩) ?_ | refine Le.lst rfl (fun _ _ => rfl) (fun _ => ⟨fun _ => ⟨trivial, trivial⟩, trivial⟩) ?_ | exact Le.nils rfl (fun _ => ⟨fun _ => ⟨trivial, trivial⟩, trivial⟩) | refine Le.agg ?_ | refine Le.tup ?_ | exact Le.any _))) <;> exact .i hi1, by ((try cbv) <;> (repeat' (first | with_reducible exact trivial | with_reducible refine And.intro ?_ ?_)) <;> (try first | exact SlotLe.refl _ | exact SlotLe.dyn rfl | refine SlotLe.fix ?_ | refine SlotLe.dyn ?_) <;> ((repeat' first | exact LeL.nil | exact Le.refl _ | refine LeL.cons ?_ ?_ | exact Le.ic rfl | exact Le.bc rfl | exact Le.i rfl | exact Le.b rfl | exact Le.sl rfl | exact Le.nils rfl (fun _ => ⟨trivial, trivial⟩) | refine Le.lst rfl (fun _ _ => rfl) (fun _ => ⟨trivial, trivial⟩) ?_ | refine Le.lst rfl (fun _ _ => rfl) (fun _ => ⟨fun _ => ⟨trivial, trivial⟩, trivial⟩) ?_ | exact Le.nils rfl (fun _ => ⟨fun _ => ⟨trivial, trivial⟩, trivial⟩) | refine Le.agg ?_ | refine Le.tup ?_ | exact Le.any _))) <;> first | exact hy.1.symm | exact hy.2.symm, ⟨by show (i + 1 ≤ x.b.length ∧ i + 1 ≤ 40) ∧ 40 - (i + 1) < 40 - i; omega⟩⟩
    · have h := h.out
      have hmi : i = min x.b.length 40 := by simp [ltB] at h; ((try simp only [Go.Vc.natc] at *); omega)
      have hoi : oiN x.b i = oiN x.b (min x.b.length 40) := by rw [hmi]
      cbv
      refine ⟨fun h => ?_, fun h => ?_⟩
      · have h := h.out
        have h2 : 2 < x.b.length := by simp [ltB] at h; ((try simp only [Go.Vc.natc] at *); omega)
        have hex0 : ∃ v, x.b[0]? = some v := ⟨_, List.getElem?_eq_getElem (by omega)⟩
        have hex1 : ∃ v, x.b[1]? = some v := ⟨_, List.getElem?_eq_getElem (by omega)⟩
        have hex2 : ∃ v, x.b[2]? = some v := ⟨_, List.getElem?_eq_getElem h2⟩
        cbv
        obtain ⟨b0, hb0⟩ := hex0
        obtain ⟨b1, hb1⟩ := hex1
        obtain ⟨b2, hb2⟩ := hex2
        have r0 := hx.2 b0 (List.mem_of_getElem? hb0)
        have r1 := hx.2 b1 (List.mem_of_getElem? hb1)
        have r2 := hx.2 b2 (List.mem_of_getElem? hb2)
        refine ⟨b0, ⟨by decide, hb0⟩, ?_⟩
        cbv
        refine ⟨b1, ⟨by decide, hb1⟩, ?_⟩
        cbv
        refine ⟨b2, ⟨by decide, hb2⟩, ⟨by decide⟩, ?_⟩
        cbv
        refine ⟨fun h => ?_, fun h => ?_⟩
        · have h := h.out
          have h7 : b2 % 8 = 7 := by rw [← Int.tmod_eq_emod_of_nonneg r2.1]; simpa [eqB] using h
          have hl := lkF_a (k := x.k) h2 hb0 hb1 hb2 h7
          rw [← hoi] at hl
          cbv
          refine ⟨b0, ⟨by decide, hb0⟩, ⟨by decide⟩, ?_⟩
          cbv
          refine ⟨b1, ⟨by decide, hb1⟩, ⟨by decide⟩, ?_⟩
          cbv
          rw [hl]
          refine ⟨.agg ?_⟩
          ((repeat' first | exact LeL.nil | exact Le.refl _ | refine LeL.cons ?_ ?_ | exact Le.ic rfl | exact Le.bc rfl | exact Le.i rfl | exact Le.b rfl | exact Le.sl rfl | exact Le.nils rfl (fun _ => ⟨trivial, trivial⟩) | refine Le.lst rfl (fun _ _ => rfl) (fun _ => ⟨trivial, trivial⟩) ?_ | refine Le.lst rfl (fun _ _ => rfl) (fun _ => ⟨fun _ => ⟨trivial, trivial⟩, trivial⟩) ?_ | exact Le.nils rfl (fun _ => ⟨fun _ => ⟨trivial, trivial⟩, trivial⟩) | refine Le.agg ?_ | refine Le.tup ?_ | exact Le.any _)) <;> first | exact .i (num1 hlen.2.2 r0.1 r0.2) | exact .i (num2 r1.1 r1.2)
        · have h := h.out
          have h7 : ¬ b2 % 8 = 7 := by rw [← Int.tmod_eq_emod_of_nonneg r2.1]; simpa [eqB] using h
          have hl := lkF_b (k := x.k) h2 hb0 hb1 hb2 h7
          rw [← hoi] at hl
          cbv
          rw [hl]
          refine ⟨.agg ?_⟩
          ((repeat' first | exact LeL.nil | exact Le.refl _ | refine LeL.cons ?_ ?_ | exact Le.ic rfl | exact Le.bc rfl | exact Le.i rfl | exact Le.b rfl | exact Le.sl rfl | exact Le.nils rfl (fun _ => ⟨trivial, trivial⟩) | refine Le.lst rfl (fun _ _ => rfl) (fun _ => ⟨trivial, trivial⟩) ?_ | refine Le.lst rfl (fun _ _ => rfl) (fun _ => ⟨fun _ => ⟨trivial, trivial⟩, trivial⟩) ?_ | exact Le.nils rfl (fun _ => ⟨fun _ => ⟨trivial, trivial⟩, trivial⟩) | refine Le.agg ?_ | refine Le.tup ?_ | exact Le.any _)) <;> first | exact .i (num3 r0.1 r0.2) | exact .i (num4 hlen.2.1 hi.2 r1.1 r1.2)
      · have h := h.out
        have h2 : ¬ 2 < x.b.length := by simp [ltB] at h; ((try simp only [Go.Vc.natc] at *); omega)
        have hl := lkF_c (k := x.k) h2
        rw [← hoi] at hl
        cbv
        rw [hl]
        refine ⟨.agg ?_⟩
        ((repeat' first | exact LeL.nil | exact Le.refl _ | refine LeL.cons ?_ ?_ | exact Le.ic rfl | exact Le.bc rfl | exact Le.i rfl | exact Le.b rfl | exact Le.sl rfl | exact Le.nils rfl (fun _ => ⟨trivial, trivial⟩) | refine Le.lst rfl (fun _ _ => rfl) (fun _ => ⟨trivial, trivial⟩) ?_ | refine Le.lst rfl (fun _ _ => rfl) (fun _ => ⟨fun _ => ⟨trivial, trivial⟩, trivial⟩) ?_ | exact Le.nils rfl (fun _ => ⟨fun _ => ⟨trivial, trivial⟩, trivial⟩) | refine Le.agg ?_ | refine Le.tup ?_ | exact Le.any _))
  · have h := h.out
    have hmi : i = min x.b.length 40 := by simp [ltB] at h; ((try simp only [Go.Vc.natc] at *); omega)
    have hoi : oiN x.b i = oiN x.b (min x.b.length 40) := by rw [hmi]
    cbv
    refine ⟨fun h => ?_, fun h => ?_⟩
    · have h := h.out
      have h2 : 2 < x.b.length := by simp [ltB] at h; ((try simp only [Go.Vc.natc] at *); omega)
      have hex0 : ∃ v, x.b[0]? = some v := ⟨_, List.getElem?_eq_getElem (by omega)⟩
      have hex1 : ∃ v, x.b[1]? = some v := ⟨_, List.getElem?_eq_getElem (by omega)⟩
      have hex2 : ∃ v, x.b[2]? = some v := ⟨_, List.getElem?_eq_getElem h2⟩
      cbv
      obtain ⟨b0, hb0⟩ := hex0
      obtain ⟨b1, hb1⟩ := hex1
      obtain ⟨b2, hb2⟩ := hex2
      have r0 := hx.2 b0 (List.mem_of_getElem? hb0)
      have r1 := hx.2 b1 (List.mem_of_getElem? hb1)
      have r2 := hx.2 b2 (List.mem_of_getElem? hb2)
      refine ⟨b0, ⟨by decide, hb0⟩, ?_⟩
      cbv
      refine ⟨b1, ⟨by decide, hb1⟩, ?_⟩
      cbv
      refine ⟨b2, ⟨by decide, hb2⟩, ⟨by decide⟩, ?_⟩
      cbv
      refine ⟨fun h => ?_, fun h => ?_⟩
      · have h := h.out
        have h7 : b2 % 8 = 7 := by rw [← Int.tmod_eq_emod_of_nonneg r2.1]; simpa [eqB] using h
        have hl := lkF_a (k := x.k) h2 hb0 hb1 hb2 h7
        rw [← hoi] at hl
        cbv
        refine ⟨b0, ⟨by decide, hb0⟩, ⟨by decide⟩, ?_⟩
        cbv
        refine ⟨b1, ⟨by decide, hb1⟩, ⟨by decide⟩, ?_⟩
        cbv
        rw [hl]
        refine ⟨.agg ?_⟩
        ((repeat' first | exact LeL.nil | exact Le.refl _ | refine LeL.cons ?_ ?_ | exact Le.ic rfl | exact Le.bc rfl | exact Le.i rfl | exact Le.b rfl | exact Le.sl rfl | exact Le.nils rfl (fun _ => ⟨trivial, trivial⟩) | refine Le.lst rfl (fun _ _ => rfl) (fun _ => ⟨trivial, trivial⟩) ?_ | refine Le.lst rfl (fun _ _ => rfl) (fun _ => ⟨fun _ => ⟨trivial, trivial⟩, trivial⟩) ?_ | exact Le.nils rfl (fun _ => ⟨fun _ => ⟨trivial, trivial⟩, trivial⟩) | refine Le.agg ?_ | refine Le.tup ?_ | exact Le.any _)) <;> first | exact .i (num1 hlen.2.2 r0.1 r0.2) | exact .i (num2 r1.1 r1.2)
      · have h := h.out
        have h7 : ¬ b2 % 8 = 7 := by rw [← Int.tmod_eq_emod_of_nonneg r2.1]; simpa [eqB] using h
        have hl := lkF_b (k := x.k) h2 hb0 hb1 hb2 h7
        rw [← hoi] at hl
        cbv
        rw [hl]
        refine ⟨.agg ?_⟩
        ((repeat' first | exact LeL.nil | exact Le.refl _ | refine LeL.cons ?_ ?_ | exact Le.ic rfl | exact Le.bc rfl | exact Le.i rfl | exact Le.b rfl | exact Le.sl rfl | exact Le.nils rfl (fun _ => ⟨trivial, trivial⟩) | refine Le.lst rfl (fun _ _ => rfl) (fun _ => ⟨trivial, trivial⟩) ?_ | refine Le.lst rfl (fun _ _ => rfl) (fun _ => ⟨fun _ => ⟨trivial, trivial⟩, trivial⟩) ?_ | exact Le.nils rfl (fun _ => ⟨fun _ => ⟨trivial, trivial⟩, trivial⟩) | refine Le.agg ?_ | refine Le.tup ?_ | exact Le.any _)) <;> first | exact .i (num3 r0.1 r0.2) | exact .i (num4 hlen.2.1 hi.2 r1.1 r1.2)
    · have h := h.out
      have h2 : ¬ 2 < x.b.length := by simp [ltB] at h; ((try simp only [Go.Vc.natc] at *); omega)
      have hl := lkF_c (k := x.k) h2
      rw [← hoi] at hl
      cbv
      rw [hl]
      refine ⟨.agg ?_⟩
      ((repeat' first | exact LeL.nil | exact Le.refl _ | refine LeL.cons ?_ ?_ | exact Le.ic rfl | exact Le.bc rfl | exact Le.i rfl | exact Le.b rfl | exact Le.sl rfl | exact Le.nils rfl (fun _ => ⟨trivial, trivial⟩) | refine Le.lst rfl (fun _ _ => rfl) (fun _ => ⟨trivial, trivial⟩) ?_ | refine Le.lst rfl (fun _ _ => rfl) (fun _ => ⟨fun _ => ⟨trivial, trivial⟩, trivial⟩) ?_ | exact Le.nils rfl (fun _ => ⟨fun _ => ⟨trivial, trivial⟩, trivial⟩) | refine Le.agg ?_ | refine Le.tup ?_ | exact Le.any _))
end Go.Proofs.Tran
