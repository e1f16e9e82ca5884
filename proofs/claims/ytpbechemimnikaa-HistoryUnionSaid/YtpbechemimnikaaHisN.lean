/-
  The histories' functions: the helpers of the laws
-/
import Derived.Test.YtpbechemimnikaaHisM
set_option linter.unusedVariables false
set_option linter.unusedSimpArgs false
set_option maxRecDepth 10000
set_option maxHeartbeats 2000000
namespace Go.Proofs.Hist
open Go Go.Vc

noncomputable def sp21 : List (Nat × Vc.Spec) := (13, IsS) :: (33, AncS) :: (34, BasS) :: (35, BetS) :: (28, HeadsS) :: sp17
theorem sp21_ok : All (fun f S => SpecOk (PP ()) f S) sp21 := ⟨Is_ok, Anc_ok, Bas_ok, Bet_ok, Heads_ok, sp17_ok⟩

noncomputable def ctx21 : Ctx := { tt := tt, el := el, sp := fun f => tab sp21 f, inl := fun f => tab inl2 f }
theorem ctx21_ok : ctx21.Ok (PP ()) := ⟨tt_ok, el_ok ctx21 rfl, tab_all sp21_ok, fun f fn h => (tab_all inl2_ok f fn h).1, mixed⟩
theorem ctx21_inl : InlOk ctx21 := fun f fn h => (tab_all inl2_ok f fn h).2

/-- The number that a byte picks. -/
def pickM (h : List Cm) (k : Int) : Int := match h[k.toNat % h.length]? with
  | none => k
  | some c => if k = 255 then k else c.id
structure HK where
  h : List Cm
  k : Int
structure HKok (x : HK) : Prop where
  h : Hs x.h
  k0 : 0 ≤ x.k
  k1 : x.k < 256
def PickS : Vc.Spec where
  α := HK
  args x := [.sl 4 cCm (fun _ => x.h), .i .u8 (fun _ => x.k)]
  pre x := HKok x
  res x := .i .u64 (fun _ => pickM x.h x.k)
theorem pick_none {h : List Cm} {k : Int} (e : eqB (h.length : Int) 0 = true) : pickM h k = k := by
  have : h = [] := List.eq_nil_of_length_eq_zero (by simp [eqB] at e; exact List.length_eq_zero_iff.2 e)
  subst this
  rfl
theorem pick_255 {h : List Cm} {k : Int} (e : eqB k 255 = true) : pickM h k = k := by
  have : k = 255 := by simpa [eqB] using e
  unfold pickM
  split
  · rfl
  · rw [if_pos this]
theorem pick_at {h : List Cm} {k : Int} {c : Cm} (e : eqB k 255 = false) (hc : h[k.toNat % h.length]? = some c) : pickM h k = c.id := by
  have : k ≠ 255 := by simpa [eqB] using e
  unfold pickM
  rw [hc]
  simp only
  rw [if_neg this]
theorem pick_ix {n : Nat} {k : Int} (h0 : 0 ≤ k) (h1 : k < 256) : (IntKind.i64.wrap k).tmod (n : Int) = ((k.toNat % n : Nat) : Int) := by
  obtain ⟨j, rfl⟩ : ∃ j : Nat, k = j := ⟨k.toNat, by omega⟩
  rw [w64 (by omega) (by omega), tmod_nat]
  rfl
theorem Pick_ok : SpecOk (PP ()) 11 PickS := by
  refine spec_of_vc (lv := 2) ctx21_ok ctx21_inl (fnOk_of Try.func11 (by kernel_rfl)) (by kernel_rfl) (fun a => by simp [PickS, LFL, LF, cU64, cCm, Cm.cells]) (fun a => by simp [PickS, LFL, LF, cU64, cCm, Cm.cells]) ?_
  intro x hx
  have H : Hs x.h := hx.h
  have k0 : 0 ≤ x.k := hx.k0
  have k1 : x.k < 256 := hx.k1
  have hu := u8_u64 k0 k1
  have hix := pick_ix (n := x.h.length) k0 k1
  refine ⟨?_⟩
  cbv
  refine ⟨fun h => ?_, fun h => ?_⟩
  · have e := pick_none (k := x.k) h.out
    cbv
    exact ⟨.i (by show IntKind.u64.wrap x.k = pickM x.h x.k; rw [hu, e])⟩
  · have h0 : eqB (x.h.length : Int) 0 = false := h.out
    have hn : 0 < x.h.length := by simp [eqB] at h0; exact List.length_pos_iff.2 h0
    have hn' : ¬ (x.h.length : Int) = 0 := by omega
    have hm := Nat.mod_lt x.k.toNat hn
    obtain ⟨c, hc⟩ : ∃ c, x.h[x.k.toNat % x.h.length]? = some c := ⟨_, List.getElem?_eq_getElem hm⟩
    have hix0 : 0 ≤ (IntKind.i64.wrap x.k).tmod (x.h.length : Int) := by rw [hix]; exact Int.natCast_nonneg _
    have hixc : x.h[((IntKind.i64.wrap x.k).tmod (x.h.length : Int)).toNat]? = some c := by rw [hix, Int.toNat_natCast]; exact hc
    cbv
    refine ⟨fun h => ?_, fun h => ?_⟩
    · have e := pick_255 (h := x.h) h.out
      cbv
      exact ⟨.i (by show IntKind.u64.wrap x.k = pickM x.h x.k; rw [hu, e])⟩
    · have e := pick_at h.out hc
      cbv
      refine ⟨⟨hn'⟩, ?_⟩
      refine ⟨c, ⟨hix0, hixc⟩, ?_⟩
      cbv
      exact ⟨.i e.symm⟩

def AncAS : Vc.Spec where
  α := HI1
  args x := [.sl 4 cCm (fun _ => x.h), .i .u64 (fun _ => x.i)]
  pre x := Hs x.h
  res x := .agg [.sl 1 cU64 (fun _ => (ancS x.h x.i).1), .i .i64 (fun _ => (ancS x.h x.i).2)]
theorem AncA_ok : SpecOk (PP ()) 14 AncAS := by
  refine spec_of_vc (lv := 2) ctx21_ok ctx21_inl (fnOk_of Try.func14 (by kernel_rfl)) (by kernel_rfl) (fun a => by simp [AncAS, LFL, LF, cU64, cCm, Cm.cells]) (fun a => by simp [AncAS, LFL, LF, cU64, cCm, Cm.cells]) ?_
  intro x hx
  have H : Hs x.h := hx
  obtain ⟨q, hq⟩ : ∃ q, q = ancS x.h x.i := ⟨_, rfl⟩
  have hr : AncAS.res x = .agg [.sl 1 cU64 (fun _ => q.1), .i .i64 (fun _ => q.2)] := by rw [hq]; rfl
  rw [hr]
  refine ⟨?_⟩
  cbv
  refine ⟨x, ⟨by ((repeat' first | exact LeL.nil | exact Le.refl _ | refine LeL.cons ?_ ?_ | exact Le.ic rfl | exact Le.bc rfl | exact Le.i rfl | exact Le.b rfl | exact Le.sl rfl | exact Le.mp rfl | exact Le.csl rfl | exact Le.cslsl rfl | exact Le.nils rfl (fun _ => ⟨trivial, trivial⟩) | refine Le.lst rfl (fun _ _ => rfl) (fun _ => ⟨trivial, trivial⟩) ?_ | refine Le.lst rfl (fun _ _ => rfl) (fun _ => ⟨fun _ => ⟨trivial, trivial⟩, trivial⟩) ?_ | exact Le.nils rfl (fun _ => ⟨fun _ => ⟨trivial, trivial⟩, trivial⟩) | exact Le.nils rfl (fun x => (cCm_ok x).1) | refine Le.lst rfl (fun _ _ => rfl) (fun x => (cCm_ok x).1) ?_ | refine Le.agg ?_ | refine Le.tup ?_ | refine Le.fn ?_ ?_ | refine Le.spt ?_ | exact Le.any _)), H⟩, ?_⟩
  cbv
  exact ⟨.agg (.cons (.sl (by rw [hq])) (.cons (.i (by rw [hq])) .nil))⟩

def BasAS : Vc.Spec where
  α := HAB
  args x := [.sl 4 cCm (fun _ => x.h), .i .u64 (fun _ => x.a), .i .u64 (fun _ => x.b)]
  pre x := Hs x.h
  res x := .agg [.sl 1 cU64 (fun _ => (basS x.h x.a x.b).1), .i .i64 (fun _ => (basS x.h x.a x.b).2)]
theorem BasA_ok : SpecOk (PP ()) 16 BasAS := by
  refine spec_of_vc (lv := 2) ctx21_ok ctx21_inl (fnOk_of Try.func16 (by kernel_rfl)) (by kernel_rfl) (fun a => by simp [BasAS, LFL, LF, cU64, cCm, Cm.cells]) (fun a => by simp [BasAS, LFL, LF, cU64, cCm, Cm.cells]) ?_
  intro x hx
  have H : Hs x.h := hx
  obtain ⟨q, hq⟩ : ∃ q, q = basS x.h x.a x.b := ⟨_, rfl⟩
  have hr : BasAS.res x = .agg [.sl 1 cU64 (fun _ => q.1), .i .i64 (fun _ => q.2)] := by rw [hq]; rfl
  rw [hr]
  refine ⟨?_⟩
  cbv
  refine ⟨x, ⟨by ((repeat' first | exact LeL.nil | exact Le.refl _ | refine LeL.cons ?_ ?_ | exact Le.ic rfl | exact Le.bc rfl | exact Le.i rfl | exact Le.b rfl | exact Le.sl rfl | exact Le.mp rfl | exact Le.csl rfl | exact Le.cslsl rfl | exact Le.nils rfl (fun _ => ⟨trivial, trivial⟩) | refine Le.lst rfl (fun _ _ => rfl) (fun _ => ⟨trivial, trivial⟩) ?_ | refine Le.lst rfl (fun _ _ => rfl) (fun _ => ⟨fun _ => ⟨trivial, trivial⟩, trivial⟩) ?_ | exact Le.nils rfl (fun _ => ⟨fun _ => ⟨trivial, trivial⟩, trivial⟩) | exact Le.nils rfl (fun x => (cCm_ok x).1) | refine Le.lst rfl (fun _ _ => rfl) (fun x => (cCm_ok x).1) ?_ | refine Le.agg ?_ | refine Le.tup ?_ | refine Le.fn ?_ ?_ | refine Le.spt ?_ | exact Le.any _)), H⟩, ?_⟩
  cbv
  exact ⟨.agg (.cons (.sl (by rw [hq])) (.cons (.i (by rw [hq])) .nil))⟩

def BetAS : Vc.Spec where
  α := HAB
  args x := [.sl 4 cCm (fun _ => x.h), .i .u64 (fun _ => x.a), .i .u64 (fun _ => x.b)]
  pre x := Hs x.h
  res x := .agg [.sl 1 cU64 (fun _ => (betS x.h x.a x.b).1), .i .i64 (fun _ => (betS x.h x.a x.b).2)]
theorem BetA_ok : SpecOk (PP ()) 19 BetAS := by
  refine spec_of_vc (lv := 2) ctx21_ok ctx21_inl (fnOk_of Try.func19 (by kernel_rfl)) (by kernel_rfl) (fun a => by simp [BetAS, LFL, LF, cU64, cCm, Cm.cells]) (fun a => by simp [BetAS, LFL, LF, cU64, cCm, Cm.cells]) ?_
  intro x hx
  have H : Hs x.h := hx
  obtain ⟨q, hq⟩ : ∃ q, q = betS x.h x.a x.b := ⟨_, rfl⟩
  have hr : BetAS.res x = .agg [.sl 1 cU64 (fun _ => q.1), .i .i64 (fun _ => q.2)] := by rw [hq]; rfl
  rw [hr]
  refine ⟨?_⟩
  cbv
  refine ⟨x, ⟨by ((repeat' first | exact LeL.nil | exact Le.refl _ | refine LeL.cons ?_ ?_ | exact Le.ic rfl | exact Le.bc rfl | exact Le.i rfl | exact Le.b rfl | exact Le.sl rfl | exact Le.mp rfl | exact Le.csl rfl | exact Le.cslsl rfl | exact Le.nils rfl (fun _ => ⟨trivial, trivial⟩) | refine Le.lst rfl (fun _ _ => rfl) (fun _ => ⟨trivial, trivial⟩) ?_ | refine Le.lst rfl (fun _ _ => rfl) (fun _ => ⟨fun _ => ⟨trivial, trivial⟩, trivial⟩) ?_ | exact Le.nils rfl (fun _ => ⟨fun _ => ⟨trivial, trivial⟩, trivial⟩) | exact Le.nils rfl (fun x => (cCm_ok x).1) | refine Le.lst rfl (fun _ _ => rfl) (fun x => (cCm_ok x).1) ?_ | refine Le.agg ?_ | refine Le.tup ?_ | refine Le.fn ?_ ?_ | refine Le.spt ?_ | exact Le.any _)), H⟩, ?_⟩
  cbv
  exact ⟨.agg (.cons (.sl (by rw [hq])) (.cons (.i (by rw [hq])) .nil))⟩

noncomputable def AddAS : Vc.Spec where
  α := HC
  args x := [.sl 4 cCm (fun _ => x.h), .agg (Cm.cells fun _ => x.c)]
  pre x := HCok x
  res x := .agg (Ad.cells fun _ => addM dgW x.h x.c)
theorem AddA_ok : SpecOk (PP ()) 20 AddAS := by
  refine spec_of_vc (lv := 2) ctx21_ok ctx21_inl (fnOk_of Try.func20 (by kernel_rfl)) (by kernel_rfl) (fun a => by simp [AddAS, LFL, LF, cU64, cCm, Cm.cells, Ad.cells]) (fun a => by simp [AddAS, LFL, LF, cU64, cCm, Cm.cells, Ad.cells]) ?_
  intro x hx
  refine ⟨?_⟩
  cbv
  refine ⟨x, ⟨by ((repeat' first | exact LeL.nil | exact Le.refl _ | refine LeL.cons ?_ ?_ | exact Le.ic rfl | exact Le.bc rfl | exact Le.i rfl | exact Le.b rfl | exact Le.sl rfl | exact Le.mp rfl | exact Le.csl rfl | exact Le.cslsl rfl | exact Le.nils rfl (fun _ => ⟨trivial, trivial⟩) | refine Le.lst rfl (fun _ _ => rfl) (fun _ => ⟨trivial, trivial⟩) ?_ | refine Le.lst rfl (fun _ _ => rfl) (fun _ => ⟨fun _ => ⟨trivial, trivial⟩, trivial⟩) ?_ | exact Le.nils rfl (fun _ => ⟨fun _ => ⟨trivial, trivial⟩, trivial⟩) | exact Le.nils rfl (fun x => (cCm_ok x).1) | refine Le.lst rfl (fun _ _ => rfl) (fun x => (cCm_ok x).1) ?_ | refine Le.agg ?_ | refine Le.tup ?_ | refine Le.fn ?_ ?_ | refine Le.spt ?_ | exact Le.any _)), ⟨hx.h, hx.c⟩⟩, ?_⟩
  cbv
  exact ⟨.agg (by ((repeat' first | exact LeL.nil | exact Le.refl _ | refine LeL.cons ?_ ?_ | exact Le.ic rfl | exact Le.bc rfl | exact Le.i rfl | exact Le.b rfl | exact Le.sl rfl | exact Le.mp rfl | exact Le.csl rfl | exact Le.cslsl rfl | exact Le.nils rfl (fun _ => ⟨trivial, trivial⟩) | refine Le.lst rfl (fun _ _ => rfl) (fun _ => ⟨trivial, trivial⟩) ?_ | refine Le.lst rfl (fun _ _ => rfl) (fun _ => ⟨fun _ => ⟨trivial, trivial⟩, trivial⟩) ?_ | exact Le.nils rfl (fun _ => ⟨fun _ => ⟨trivial, trivial⟩, trivial⟩) | exact Le.nils rfl (fun x => (cCm_ok x).1) | refine Le.lst rfl (fun _ _ => rfl) (fun x => (cCm_ok x).1) ?_ | refine Le.agg ?_ | refine Le.tup ?_ | refine Le.fn ?_ ?_ | refine Le.spt ?_ | exact Le.any _)))⟩

/-- Numbers with an error. -/
structure Nm where
  l : List Int
  e : Int
def Nm.cells (a : Unit → Nm) : List SV := [.sl 1 cU64 (fun _ => (a ()).l), .i .i64 (fun _ => (a ()).e)]
structure NN where
  a : Nm
  b : Nm
def SameNS : Vc.Spec where
  α := NN
  args x := [.agg (Nm.cells fun _ => x.a), .agg (Nm.cells fun _ => x.b)]
  pre x := x.a.l.length < 2305843009213693952
  res x := .b (fun _ => x.a.e == x.b.e && x.a.l == x.b.l)
theorem SameN_ok : SpecOk (PP ()) 17 SameNS := by
  refine spec_of_vc (lv := 2) ctx21_ok ctx21_inl (fnOk_of Try.func17 (by kernel_rfl)) (by kernel_rfl) (fun a => by simp [SameNS, LFL, LF, cU64, cCm, Cm.cells, Nm.cells]) (fun a => by simp [SameNS, LFL, LF, cU64, cCm, Cm.cells, Nm.cells]) ?_
  intro x hx
  have hx : x.a.l.length < 2305843009213693952 := hx
  refine ⟨?_⟩
  cbv
  refine ⟨fun h => ?_, fun h => ?_⟩
  · have h : eqB x.a.e x.b.e = true := h.out
    have e : (x.a.e == x.b.e) = true := by simpa [eqB] using h
    have e2 : (x.a.l == x.b.l) = (x.a.e == x.b.e && x.a.l == x.b.l) := by rw [e]; rfl
    cbv
    refine ⟨⟨x.a.l, x.b.l⟩, ⟨by ((repeat' first | exact LeL.nil | exact Le.refl _ | refine LeL.cons ?_ ?_ | exact Le.ic rfl | exact Le.bc rfl | exact Le.i rfl | exact Le.b rfl | exact Le.sl rfl | exact Le.mp rfl | exact Le.csl rfl | exact Le.cslsl rfl | exact Le.nils rfl (fun _ => ⟨trivial, trivial⟩) | refine Le.lst rfl (fun _ _ => rfl) (fun _ => ⟨trivial, trivial⟩) ?_ | refine Le.lst rfl (fun _ _ => rfl) (fun _ => ⟨fun _ => ⟨trivial, trivial⟩, trivial⟩) ?_ | exact Le.nils rfl (fun _ => ⟨fun _ => ⟨trivial, trivial⟩, trivial⟩) | exact Le.nils rfl (fun x => (cCm_ok x).1) | refine Le.lst rfl (fun _ _ => rfl) (fun x => (cCm_ok x).1) ?_ | refine Le.agg ?_ | refine Le.tup ?_ | refine Le.fn ?_ ?_ | refine Le.spt ?_ | exact Le.any _)), hx⟩, ?_⟩
    cbv
    exact ⟨.b e2⟩
  · have h : eqB x.a.e x.b.e = false := h.out
    have e : (x.a.e == x.b.e) = false := by simpa [eqB] using h
    have e2 : false = (x.a.e == x.b.e && x.a.l == x.b.l) := by rw [e]; rfl
    cbv
    exact ⟨.bc e2⟩

end Go.Proofs.Hist
