/-
  The transport's functions, fifth part: packets of a link.
-/
import Derived.Test.YtcejljfammcflaaTranE
set_option linter.unusedVariables false
set_option linter.unusedSimpArgs false
set_option maxRecDepth 10000
set_option maxHeartbeats 1000000
namespace Go.Proofs.Tran
open Go Go.Vc

noncomputable def sp10 : List (Nat × Vc.Spec) := (45, signedS) :: sp9
theorem sp10_ok : All (fun f S => SpecOk (PP ()) f S) sp10 := ⟨signed_ok, sp9_ok⟩
noncomputable def ctx10 : Ctx := { tt := tt, el := el, sp := fun f => tab sp10 f, inl := fun f => tab inl2 f }
theorem ctx10_ok : ctx10.Ok (PP ()) := ⟨tt_ok, el_ok ctx10 rfl, tab_all sp10_ok, fun f fn h => (tab_all inl2_ok f fn h).1, mixed⟩
theorem ctx10_inl : InlOk ctx10 := fun f fn h => (tab_all inl2_ok f fn h).2

/-- Few and short messages. -/
structure Sm (l : List (List Int)) : Prop where
  n : l.length ≤ 100000
  m : ∀ b ∈ l, b.length ≤ 100000
theorem Sm.bs {l : List (List Int)} (h : Sm l) : Bs l := ⟨by have := h.n; omega, fun b hb => by have := h.m b hb; omega⟩
theorem Sm.get {l : List (List Int)} (h : Sm l) {i : Nat} {b : List Int} (hb : l[i]? = some b) : b.length ≤ 100000 := h.m b (List.mem_of_getElem? hb)

noncomputable def pktP (l : Lk) (i : Int) : Pk := if 0 ≤ i ∧ i < (l.out.length : Int) then sig l (IntKind.i64.wrap (l.base + i)) (l.out.getD i.toNat []) else ⟨0, 0, [], 0⟩
def pktE (l : Lk) (i : Int) : Int := if 0 ≤ i ∧ i < (l.out.length : Int) then 0 else 4
theorem pktP_yes {l : Lk} {i : Int} (h0 : 0 ≤ i) (h1 : i < (l.out.length : Int)) {v : List Int} (hv : l.out[i.toNat]? = some v) : pktP l i = sig l (IntKind.i64.wrap (l.base + i)) v := by
  rw [pktP, if_pos ⟨h0, h1⟩, List.getD_eq_getElem?_getD, hv]; rfl
theorem pktE_yes {l : Lk} {i : Int} (h0 : 0 ≤ i) (h1 : i < (l.out.length : Int)) : pktE l i = 0 := if_pos ⟨h0, h1⟩
theorem pktP_no {l : Lk} {i : Int} (h : ¬ (0 ≤ i ∧ i < (l.out.length : Int))) : pktP l i = ⟨0, 0, [], 0⟩ := if_neg h
theorem pktE_no {l : Lk} {i : Int} (h : ¬ (0 ≤ i ∧ i < (l.out.length : Int))) : pktE l i = 4 := if_neg h
structure LI where
  l : Lk
  i : Int
noncomputable def PacketS : Vc.Spec where
  α := LI
  args x := [.agg (Lk.cells fun _ => x.l), .i .i64 (fun _ => x.i)]
  pre x := Sm x.l.out
  res x := .tup [.agg (Pk.cells fun _ => pktP x.l x.i), .i .i64 (fun _ => pktE x.l x.i)]
theorem Packet_ok : SpecOk (PP ()) 41 PacketS := by
  refine spec_of_vc (lv := 2) ctx10_ok ctx10_inl (fnOk_of Try.func41 (by kernel_rfl)) (by kernel_rfl) (fun a => ⟨Lk.lf fun _ => a.l, trivial, trivial⟩) (fun a => ⟨Pk.lf fun _ => pktP a.l a.i, trivial, trivial⟩) ?_
  intro x hx
  have hs : Sm x.l.out := hx
  refine ⟨?_⟩
  cbv
  refine ⟨fun h => ?_, fun h => ?_⟩
  · have h := h.out
    have hno : ¬ (0 ≤ x.i ∧ x.i < (x.l.out.length : Int)) := by simp [ltB] at h; omega
    have e1 := pktP_no hno
    have e2 := pktE_no hno
    cbv
    rw [e1, e2]
    refine ⟨.tup ?_⟩
    ((repeat' first | exact LeL.nil | exact Le.refl _ | refine LeL.cons ?_ ?_ | exact Le.ic rfl | exact Le.bc rfl | exact Le.i rfl | exact Le.b rfl | exact Le.sl rfl | exact Le.nils rfl (fun _ => ⟨trivial, trivial⟩) | refine Le.lst rfl (fun _ _ => rfl) (fun _ => ⟨trivial, trivial⟩) ?_ | refine Le.lst rfl (fun _ _ => rfl) (fun _ => ⟨fun _ => ⟨trivial, trivial⟩, trivial⟩) ?_ | exact Le.nils rfl (fun _ => ⟨fun _ => ⟨trivial, trivial⟩, trivial⟩) | refine Le.agg ?_ | refine Le.tup ?_ | exact Le.any _))
  · have h := h.out
    have h0 : 0 ≤ x.i := by simp [ltB] at h; omega
    cbv
    refine ⟨fun h => ?_, fun h => ?_⟩
    · have h := h.out
      have hno : ¬ (0 ≤ x.i ∧ x.i < (x.l.out.length : Int)) := by simp [leB] at h; ((try simp only [Go.Vc.natc] at *); omega)
      have e1 := pktP_no hno
      have e2 := pktE_no hno
      cbv
      rw [e1, e2]
      refine ⟨.tup ?_⟩
      ((repeat' first | exact LeL.nil | exact Le.refl _ | refine LeL.cons ?_ ?_ | exact Le.ic rfl | exact Le.bc rfl | exact Le.i rfl | exact Le.b rfl | exact Le.sl rfl | exact Le.nils rfl (fun _ => ⟨trivial, trivial⟩) | refine Le.lst rfl (fun _ _ => rfl) (fun _ => ⟨trivial, trivial⟩) ?_ | refine Le.lst rfl (fun _ _ => rfl) (fun _ => ⟨fun _ => ⟨trivial, trivial⟩, trivial⟩) ?_ | exact Le.nils rfl (fun _ => ⟨fun _ => ⟨trivial, trivial⟩, trivial⟩) | refine Le.agg ?_ | refine Le.tup ?_ | exact Le.any _))
    · have h := h.out
      have h1 : x.i < (x.l.out.length : Int) := by simp [leB] at h; ((try simp only [Go.Vc.natc] at *); omega)
      obtain ⟨v, hv⟩ : ∃ v, x.l.out[x.i.toNat]? = some v := ⟨_, List.getElem?_eq_getElem (by omega)⟩
      have hvl := hs.get hv
      have e1 := pktP_yes h0 h1 hv
      have e2 := pktE_yes h0 h1
      cbv
      refine ⟨v, ⟨h0, hv⟩, ?_⟩
      cbv
      refine ⟨⟨x.l, IntKind.i64.wrap (x.l.base + x.i), v⟩, ⟨by ((repeat' first | exact LeL.nil | exact Le.refl _ | refine LeL.cons ?_ ?_ | exact Le.ic rfl | exact Le.bc rfl | exact Le.i rfl | exact Le.b rfl | exact Le.sl rfl | exact Le.nils rfl (fun _ => ⟨trivial, trivial⟩) | refine Le.lst rfl (fun _ _ => rfl) (fun _ => ⟨trivial, trivial⟩) ?_ | refine Le.lst rfl (fun _ _ => rfl) (fun _ => ⟨fun _ => ⟨trivial, trivial⟩, trivial⟩) ?_ | exact Le.nils rfl (fun _ => ⟨fun _ => ⟨trivial, trivial⟩, trivial⟩) | refine Le.agg ?_ | refine Le.tup ?_ | exact Le.any _)), by show v.length ≤ _; omega⟩, ?_⟩
      cbv
      rw [e1, e2]
      refine ⟨.tup ?_⟩
      ((repeat' first | exact LeL.nil | exact Le.refl _ | refine LeL.cons ?_ ?_ | exact Le.ic rfl | exact Le.bc rfl | exact Le.i rfl | exact Le.b rfl | exact Le.sl rfl | exact Le.nils rfl (fun _ => ⟨trivial, trivial⟩) | refine Le.lst rfl (fun _ _ => rfl) (fun _ => ⟨trivial, trivial⟩) ?_ | refine Le.lst rfl (fun _ _ => rfl) (fun _ => ⟨fun _ => ⟨trivial, trivial⟩, trivial⟩) ?_ | exact Le.nils rfl (fun _ => ⟨fun _ => ⟨trivial, trivial⟩, trivial⟩) | refine Le.agg ?_ | refine Le.tup ?_ | exact Le.any _))

noncomputable def AckS : Vc.Spec where
  α := Lk
  args x := [.agg (Lk.cells fun _ => x)]
  pre x := True
  res x := .agg (Pk.cells fun _ => sig x (-1) [])
theorem Ack_ok : SpecOk (PP ()) 29 AckS := by
  refine spec_of_vc (lv := 2) ctx10_ok ctx10_inl (fnOk_of Try.func29 (by kernel_rfl)) (by kernel_rfl) (fun a => ⟨Lk.lf fun _ => a, trivial⟩) (fun a => Pk.lf fun _ => sig a (-1) []) ?_
  intro x hx
  change Lk at x
  refine ⟨?_⟩
  cbv
  refine ⟨⟨x, -1, []⟩, ⟨by ((repeat' first | exact LeL.nil | exact Le.refl _ | refine LeL.cons ?_ ?_ | exact Le.ic rfl | exact Le.bc rfl | exact Le.i rfl | exact Le.b rfl | exact Le.sl rfl | exact Le.nils rfl (fun _ => ⟨trivial, trivial⟩) | refine Le.lst rfl (fun _ _ => rfl) (fun _ => ⟨trivial, trivial⟩) ?_ | refine Le.lst rfl (fun _ _ => rfl) (fun _ => ⟨fun _ => ⟨trivial, trivial⟩, trivial⟩) ?_ | exact Le.nils rfl (fun _ => ⟨fun _ => ⟨trivial, trivial⟩, trivial⟩) | refine Le.agg ?_ | refine Le.tup ?_ | exact Le.any _)), Nat.zero_le _⟩, ?_⟩
  cbv
  refine ⟨.agg ?_⟩
  ((repeat' first | exact LeL.nil | exact Le.refl _ | refine LeL.cons ?_ ?_ | exact Le.ic rfl | exact Le.bc rfl | exact Le.i rfl | exact Le.b rfl | exact Le.sl rfl | exact Le.nils rfl (fun _ => ⟨trivial, trivial⟩) | refine Le.lst rfl (fun _ _ => rfl) (fun _ => ⟨trivial, trivial⟩) ?_ | refine Le.lst rfl (fun _ _ => rfl) (fun _ => ⟨fun _ => ⟨trivial, trivial⟩, trivial⟩) ?_ | exact Le.nils rfl (fun _ => ⟨fun _ => ⟨trivial, trivial⟩, trivial⟩) | refine Le.agg ?_ | refine Le.tup ?_ | exact Le.any _))

theorem RAck_ok : SpecOk (PP ()) 30 AckS := by
  refine spec_of_vc (lv := 2) ctx10_ok ctx10_inl (fnOk_of Try.func30 (by kernel_rfl)) (by kernel_rfl) (fun a => ⟨Lk.lf fun _ => a, trivial⟩) (fun a => Pk.lf fun _ => sig a (-1) []) ?_
  intro x hx
  change Lk at x
  obtain ⟨ok, hok⟩ : ∃ k, k = oth x.key := ⟨_, rfl⟩
  refine ⟨?_⟩
  cbv
  refine ⟨⟨ok, ⟨-1, x.got, [], 0⟩⟩, ⟨by rw [oth_eq, ← hok]; cbv; ((repeat' first | exact LeL.nil | exact Le.refl _ | refine LeL.cons ?_ ?_ | exact Le.ic rfl | exact Le.bc rfl | exact Le.i rfl | exact Le.b rfl | exact Le.sl rfl | exact Le.nils rfl (fun _ => ⟨trivial, trivial⟩) | refine Le.lst rfl (fun _ _ => rfl) (fun _ => ⟨trivial, trivial⟩) ?_ | refine Le.lst rfl (fun _ _ => rfl) (fun _ => ⟨fun _ => ⟨trivial, trivial⟩, trivial⟩) ?_ | exact Le.nils rfl (fun _ => ⟨fun _ => ⟨trivial, trivial⟩, trivial⟩) | refine Le.agg ?_ | refine Le.tup ?_ | exact Le.any _)), Nat.zero_le _⟩, ?_⟩
  cbv
  rw [hok]
  refine ⟨.agg ?_⟩
  ((repeat' first | exact LeL.nil | exact Le.refl _ | refine LeL.cons ?_ ?_ | exact Le.ic rfl | exact Le.bc rfl | exact Le.i rfl | exact Le.b rfl | exact Le.sl rfl | exact Le.nils rfl (fun _ => ⟨trivial, trivial⟩) | refine Le.lst rfl (fun _ _ => rfl) (fun _ => ⟨trivial, trivial⟩) ?_ | refine Le.lst rfl (fun _ _ => rfl) (fun _ => ⟨fun _ => ⟨trivial, trivial⟩, trivial⟩) ?_ | exact Le.nils rfl (fun _ => ⟨fun _ => ⟨trivial, trivial⟩, trivial⟩) | refine Le.agg ?_ | refine Le.tup ?_ | exact Le.any _))

theorem RPacketIn_ok0 : True := trivial
def Pk.ecells (p : Unit → Pk) (e : Unit → Int) : List SV := Pk.cells p ++ [.i .i64 e]
theorem Pk.elf (p : Unit → Pk) (e : Unit → Int) : LFL (Pk.ecells p e) := ⟨trivial, trivial, fun y => (cU8_ok y).1, trivial, trivial, trivial⟩
noncomputable def PackedS : Vc.Spec where
  α := LI
  args x := [.agg (Lk.cells fun _ => x.l), .i .i64 (fun _ => x.i)]
  pre x := Sm x.l.out
  res x := .agg (Pk.ecells (fun _ => pktP x.l x.i) fun _ => pktE x.l x.i)
theorem RPacketIn_ok : SpecOk (PP ()) 21 PackedS := by
  refine spec_of_vc (lv := 2) ctx10_ok ctx10_inl (fnOk_of Try.func21 (by kernel_rfl)) (by kernel_rfl) (fun a => ⟨Lk.lf fun _ => a.l, trivial, trivial⟩) (fun a => Pk.elf (fun _ => pktP a.l a.i) fun _ => pktE a.l a.i) ?_
  intro x hx
  have hs : Sm x.l.out := hx
  obtain ⟨ok, hok⟩ : ∃ k, k = oth x.l.key := ⟨_, rfl⟩
  obtain ⟨bi, hbi⟩ : ∃ b, b = IntKind.i64.wrap (x.l.base + x.i) := ⟨_, rfl⟩
  refine ⟨?_⟩
  cbv
  refine ⟨fun h => ?_, fun h => ?_⟩
  · have h := h.out
    have hno : ¬ (0 ≤ x.i ∧ x.i < (x.l.out.length : Int)) := by simp [ltB] at h; omega
    have e1 := pktP_no hno
    have e2 := pktE_no hno
    cbv
    rw [e1, e2]
    refine ⟨.agg ?_⟩
    ((repeat' first | exact LeL.nil | exact Le.refl _ | refine LeL.cons ?_ ?_ | exact Le.ic rfl | exact Le.bc rfl | exact Le.i rfl | exact Le.b rfl | exact Le.sl rfl | exact Le.nils rfl (fun _ => ⟨trivial, trivial⟩) | refine Le.lst rfl (fun _ _ => rfl) (fun _ => ⟨trivial, trivial⟩) ?_ | refine Le.lst rfl (fun _ _ => rfl) (fun _ => ⟨fun _ => ⟨trivial, trivial⟩, trivial⟩) ?_ | exact Le.nils rfl (fun _ => ⟨fun _ => ⟨trivial, trivial⟩, trivial⟩) | refine Le.agg ?_ | refine Le.tup ?_ | exact Le.any _))
  · have h := h.out
    have h0 : 0 ≤ x.i := by simp [ltB] at h; omega
    cbv
    refine ⟨fun h => ?_, fun h => ?_⟩
    · have h := h.out
      have hno : ¬ (0 ≤ x.i ∧ x.i < (x.l.out.length : Int)) := by simp [leB] at h; ((try simp only [Go.Vc.natc] at *); omega)
      have e1 := pktP_no hno
      have e2 := pktE_no hno
      cbv
      rw [e1, e2]
      refine ⟨.agg ?_⟩
      ((repeat' first | exact LeL.nil | exact Le.refl _ | refine LeL.cons ?_ ?_ | exact Le.ic rfl | exact Le.bc rfl | exact Le.i rfl | exact Le.b rfl | exact Le.sl rfl | exact Le.nils rfl (fun _ => ⟨trivial, trivial⟩) | refine Le.lst rfl (fun _ _ => rfl) (fun _ => ⟨trivial, trivial⟩) ?_ | refine Le.lst rfl (fun _ _ => rfl) (fun _ => ⟨fun _ => ⟨trivial, trivial⟩, trivial⟩) ?_ | exact Le.nils rfl (fun _ => ⟨fun _ => ⟨trivial, trivial⟩, trivial⟩) | refine Le.agg ?_ | refine Le.tup ?_ | exact Le.any _))
    · have h := h.out
      have h1 : x.i < (x.l.out.length : Int) := by simp [leB] at h; ((try simp only [Go.Vc.natc] at *); omega)
      obtain ⟨v, hv⟩ : ∃ v, x.l.out[x.i.toNat]? = some v := ⟨_, List.getElem?_eq_getElem (by omega)⟩
      have hvl := hs.get hv
      have e1 := pktP_yes h0 h1 hv
      have e2 := pktE_yes h0 h1
      cbv
      refine ⟨v, ⟨h0, hv⟩, ?_⟩
      cbv
      refine ⟨⟨ok, ⟨bi, x.l.got, v, 0⟩⟩, ⟨by rw [oth_eq, ← hok, hbi]; ((repeat' first | exact LeL.nil | exact Le.refl _ | refine LeL.cons ?_ ?_ | exact Le.ic rfl | exact Le.bc rfl | exact Le.i rfl | exact Le.b rfl | exact Le.sl rfl | exact Le.nils rfl (fun _ => ⟨trivial, trivial⟩) | refine Le.lst rfl (fun _ _ => rfl) (fun _ => ⟨trivial, trivial⟩) ?_ | refine Le.lst rfl (fun _ _ => rfl) (fun _ => ⟨fun _ => ⟨trivial, trivial⟩, trivial⟩) ?_ | exact Le.nils rfl (fun _ => ⟨fun _ => ⟨trivial, trivial⟩, trivial⟩) | refine Le.agg ?_ | refine Le.tup ?_ | exact Le.any _)), by show v.length ≤ _; omega⟩, ?_⟩
      cbv
      rw [e1, e2, hok, hbi]
      refine ⟨.agg ?_⟩
      ((repeat' first | exact LeL.nil | exact Le.refl _ | refine LeL.cons ?_ ?_ | exact Le.ic rfl | exact Le.bc rfl | exact Le.i rfl | exact Le.b rfl | exact Le.sl rfl | exact Le.nils rfl (fun _ => ⟨trivial, trivial⟩) | refine Le.lst rfl (fun _ _ => rfl) (fun _ => ⟨trivial, trivial⟩) ?_ | refine Le.lst rfl (fun _ _ => rfl) (fun _ => ⟨fun _ => ⟨trivial, trivial⟩, trivial⟩) ?_ | exact Le.nils rfl (fun _ => ⟨fun _ => ⟨trivial, trivial⟩, trivial⟩) | refine Le.agg ?_ | refine Le.tup ?_ | exact Le.any _))

noncomputable def sp11 : List (Nat × Vc.Spec) := (41, PacketS) :: (29, AckS) :: (30, AckS) :: (21, PackedS) :: sp10
theorem sp11_ok : All (fun f S => SpecOk (PP ()) f S) sp11 := ⟨Packet_ok, Ack_ok, RAck_ok, RPacketIn_ok, sp10_ok⟩
noncomputable def ctx11 : Ctx := { tt := tt, el := el, sp := fun f => tab sp11 f, inl := fun f => tab inl2 f }
theorem ctx11_ok : ctx11.Ok (PP ()) := ⟨tt_ok, el_ok ctx11 rfl, tab_all sp11_ok, fun f fn h => (tab_all inl2_ok f fn h).1, mixed⟩
theorem ctx11_inl : InlOk ctx11 := fun f fn h => (tab_all inl2_ok f fn h).2
theorem packet_ok : SpecOk (PP ()) 20 PackedS := by
  refine spec_of_vc (lv := 2) ctx11_ok ctx11_inl (fnOk_of Try.func20 (by kernel_rfl)) (by kernel_rfl) (fun a => ⟨Lk.lf fun _ => a.l, trivial, trivial⟩) (fun a => Pk.elf (fun _ => pktP a.l a.i) fun _ => pktE a.l a.i) ?_
  intro x hx
  have hs : Sm x.l.out := hx
  refine ⟨?_⟩
  cbv
  refine ⟨x, ⟨by ((repeat' first | exact LeL.nil | exact Le.refl _ | refine LeL.cons ?_ ?_ | exact Le.ic rfl | exact Le.bc rfl | exact Le.i rfl | exact Le.b rfl | exact Le.sl rfl | exact Le.nils rfl (fun _ => ⟨trivial, trivial⟩) | refine Le.lst rfl (fun _ _ => rfl) (fun _ => ⟨trivial, trivial⟩) ?_ | refine Le.lst rfl (fun _ _ => rfl) (fun _ => ⟨fun _ => ⟨trivial, trivial⟩, trivial⟩) ?_ | exact Le.nils rfl (fun _ => ⟨fun _ => ⟨trivial, trivial⟩, trivial⟩) | refine Le.agg ?_ | refine Le.tup ?_ | exact Le.any _)), hs⟩, ?_⟩
  cbv
  refine ⟨.agg ?_⟩
  ((repeat' first | exact LeL.nil | exact Le.refl _ | refine LeL.cons ?_ ?_ | exact Le.ic rfl | exact Le.bc rfl | exact Le.i rfl | exact Le.b rfl | exact Le.sl rfl | exact Le.nils rfl (fun _ => ⟨trivial, trivial⟩) | refine Le.lst rfl (fun _ _ => rfl) (fun _ => ⟨trivial, trivial⟩) ?_ | refine Le.lst rfl (fun _ _ => rfl) (fun _ => ⟨fun _ => ⟨trivial, trivial⟩, trivial⟩) ?_ | exact Le.nils rfl (fun _ => ⟨fun _ => ⟨trivial, trivial⟩, trivial⟩) | refine Le.agg ?_ | refine Le.tup ?_ | exact Le.any _))
end Go.Proofs.Tran
