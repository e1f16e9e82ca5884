/-
  Windows: the walk.
-/
import Derived.Test.YtcejljfammcflaaTranV
set_option linter.unusedVariables false
set_option linter.unusedSimpArgs false
set_option maxRecDepth 10000
set_option maxHeartbeats 8000000
namespace Go.Proofs.Tran
open Go Go.Vc

structure Win where
  k : Int
  n : Int
  b0 : Int
  b1 : Int
  b2 : Int
  b3 : Int
def winS : Vc.Spec where
  α := Win
  args y := [.i .u64 (fun _ => y.k), .i .u8 (fun _ => y.n), .agg [.i .u8 (fun _ => y.b0), .i .u8 (fun _ => y.b1), .i .u8 (fun _ => y.b2), .i .u8 (fun _ => y.b3)]]
  pre y := 0 ≤ y.n ∧ y.n < 256
  res y := .bc true
def Win.b (x : Win) : List Int := [x.b0, x.b1, x.b2, x.b3]
/-- The i-th message. -/
def Win.msg (x : Win) (i : Nat) : List Int := x.b.take ((i + x.n.toNat / 8) % 5)
def Win.many (x : Win) : Nat := 1 + x.n.toNat % 8
def Win.all (x : Win) (i : Nat) : List (List Int) := (List.range i).map x.msg
theorem Win.msg_len (x : Win) (i : Nat) : (x.msg i).length ≤ 4 := by unfold Win.msg; rw [List.length_take]; have : x.b.length = 4 := rfl; omega
theorem Win.all_len (x : Win) (i : Nat) : (x.all i).length = i := by simp [Win.all]
theorem Win.all_succ (x : Win) (i : Nat) : x.all (i + 1) = x.all i ++ [x.msg i] := by simp [Win.all, List.range_succ]
theorem Win.all_get (x : Win) {i n : Nat} (h : i < n) : (x.all n)[i]? = some (x.msg i) := by simp [Win.all, h]
/-- The sender, behind i messages. -/
def Win.x (x : Win) (i : Nat) : Lk := ⟨x.k, x.all i, 0, [], 0⟩
/-- The receiver, behind i messages. -/
noncomputable def Win.y (x : Win) (i : Nat) : Lk := ⟨oth x.k, [], 0, x.all i, (i : Int)⟩
noncomputable def Win.z (x : Win) (i : Nat) : Lk := if i < x.many then x.y 0 else x.y 1
theorem Win.snd (x : Win) {i : Nat} (h : i < 8) : sndE (x.x i) (x.msg i) = 0 ∧ sndL (x.x i) (x.msg i) = x.x (i + 1) := by
  have hb : sndBad (x.x i) (x.msg i) = false := by
    have h1 := x.msg_len i
    have h2 := x.all_len i
    have hw : IntKind.i64.wrap ((0 : Int) + (i : Int)) = (i : Int) := by rw [w64 (by omega) (by omega)]; omega
    simp only [sndBad, Win.x, h2, hw, ltB, leB, Bool.or_eq_false_iff, decide_eq_false_iff_not]
    omega
  have hg := snd_good hb
  refine ⟨hg.2, ?_⟩
  rw [hg.1]
  simp [Win.x, Win.all_succ]
theorem Win.p (x : Win) {i n : Nat} (h : i < n) (hn : n ≤ 8) : pktE (x.x n) (i : Int) = 0 ∧ pktP (x.x n) (i : Int) = ⟨(i : Int), 0, x.msg i, tagW (oth x.k) (told (i : Int) 0 ((x.msg i).length : Int) (x.msg i))⟩ := by
  have hl : (x.x n).out.length = n := x.all_len n
  have hv : (x.x n).out[((i : Int)).toNat]? = some (x.msg i) := x.all_get h
  refine ⟨pktE_yes (by omega) (by omega), ?_⟩
  rw [pktP_yes (by omega) (by omega) hv]
  have hw : IntKind.i64.wrap ((x.x n).base + (i : Int)) = (i : Int) := by
    show IntKind.i64.wrap ((0 : Int) + (i : Int)) = (i : Int)
    rw [w64 (by omega) (by omega)]; omega
  rw [hw]
  rfl
noncomputable def Win.pk (x : Win) (i : Nat) : Pk := ⟨(i : Int), 0, x.msg i, tagW (oth x.k) (told (i : Int) 0 ((x.msg i).length : Int) (x.msg i))⟩
theorem Win.acc (x : Win) (i j : Nat) : accB (x.y j) (x.pk i) = true := by
  refine accB_of ⟨?_, Int.le_refl _, ?_, ?_, ?_, rfl⟩
  · show (-1 : Int) ≤ (i : Int)
    omega
  · show (0 : Int) - 0 ≤ _
    simp [Win.y]
  · have := x.msg_len i
    show (x.msg i).length ≤ 256
    omega
  · intro h
    have h : (i : Int) < 0 := h
    omega
theorem Win.rec_y (x : Win) {i : Nat} (h : i < 8) : recE (x.y i) (x.pk i) = 0 ∧ recL (x.y i) (x.pk i) = x.y (i + 1) := by
  have hg := rec_good (x.acc i i)
  refine ⟨hg.2, ?_⟩
  rw [hg.1]
  have hA : recA (x.y i) (x.pk i) = x.y i := recA_no (by show ¬ (0 : Int) < 0; omega)
  rw [recv_yes hA ⟨rfl, by rw [show (x.y i).ins = x.all i from rfl, x.all_len]; omega, by show (i : Int) < 1000000000; omega⟩]
  simp [Win.y, Win.all_succ, Win.pk]
theorem Win.rec_z (x : Win) {i : Nat} (h : i < x.many) : recE (x.z i) (x.pk (x.many - 1 - i)) = 0 ∧ recL (x.z i) (x.pk (x.many - 1 - i)) = x.z (i + 1) := by
  have hz : x.z i = x.y 0 := if_pos h
  rw [hz]
  have hg := rec_good (x.acc (x.many - 1 - i) 0)
  refine ⟨hg.2, ?_⟩
  by_cases h1 : i + 1 < x.many
  · rw [hg.1]
    have hA : recA (x.y 0) (x.pk (x.many - 1 - i)) = x.y 0 := recA_no (by show ¬ (0 : Int) < 0; omega)
    rw [recv_no hA (by rintro ⟨h2, _⟩; have h2 : ((x.many - 1 - i : Nat) : Int) = ((0 : Nat) : Int) := h2; omega)]
    unfold Win.z
    rw [if_pos h1]
  · have h0 : x.many - 1 - i = 0 := by omega
    rw [h0, (x.rec_y (i := 0) (by omega)).2]
    unfold Win.z
    rw [if_neg h1]
theorem Win.sm (x : Win) {i : Nat} (h : i ≤ 8) : Sm (x.all i) := by
  refine ⟨by rw [x.all_len]; omega, fun b hb => ?_⟩
  simp only [Win.all, List.mem_map] at hb
  obtain ⟨j, _, rfl⟩ := hb
  have := x.msg_len j
  omega
theorem Win.y_ok (x : Win) {i : Nat} (h : i ≤ 8) : (x.y i).Ok := by
  refine ⟨by simp [Win.y], ?_, by simp [Win.y], ?_, Int.le_refl _, ?_, ?_, ?_⟩
  · show (x.all i).length ≤ 64
    rw [x.all_len]; omega
  · intro b hb
    have := (x.sm h).m b hb
    have hb : b ∈ x.all i := hb
    simp only [Win.all, List.mem_map] at hb
    obtain ⟨j, _, rfl⟩ := hb
    have := x.msg_len j
    omega
  · show (0 : Int) ≤ 1000000000 - (([] : List (List Int)).length : Int)
    simp
  · show ((x.all i).length : Int) ≤ (i : Int)
    rw [x.all_len]; exact Int.le_refl _
  · show (i : Int) ≤ 1000000000
    omega
theorem Win.z_ok (x : Win) (i : Nat) : (x.z i).Ok := by
  unfold Win.z
  split
  · exact x.y_ok (by omega)
  · exact x.y_ok (by omega)
theorem Win_ok : SpecOk (PP ()) 9 winS := by
  refine spec_of_vc (lv := 2) ctx21_ok ctx21_inl (fnOk_of Try.func9 (by kernel_rfl)) (by kernel_rfl) (fun a => ⟨trivial, trivial, ⟨trivial, trivial, trivial, trivial, trivial⟩, trivial⟩) (fun a => trivial) ?_
  intro x hx
  change Win at x
  have hx : 0 ≤ x.n ∧ x.n < 256 := hx
  have hn0 := hx.1
  have hn1 := hx.2
  have hmany : x.many ≤ 8 := by unfold Win.many; omega
  have hm1 : 1 ≤ x.many := by unfold Win.many; omega
  have h8 : x.n.tmod 8 = x.n % 8 := tmod_pos hn0
  have hmw : IntKind.i64.wrap (1 + IntKind.i64.wrap (x.n.tmod 8)) = (x.many : Int) := by
    rw [h8, w64 (n := x.n % 8) (by omega) (by omega), w64 (by omega) (by omega)]
    unfold Win.many
    omega
  have hd8 : IntKind.i64.wrap (IntKind.u8.wrap (x.n.tdiv 8)) = x.n / 8 := by
    rw [Int.tdiv_eq_ediv_of_nonneg hn0, wrap_u8 (by omega) (by omega), w64 (by omega) (by omega)]
  refine ⟨?_⟩
  cbv
  refine ⟨(), ⟨by ((repeat' first | exact LeL.nil | exact Le.refl _ | refine LeL.cons ?_ ?_ | exact Le.ic rfl | exact Le.bc rfl | exact Le.i rfl | exact Le.b rfl | exact Le.sl rfl | exact Le.nils rfl (fun _ => ⟨trivial, trivial⟩) | refine Le.lst rfl (fun _ _ => rfl) (fun _ => ⟨trivial, trivial⟩) ?_ | refine Le.lst rfl (fun _ _ => rfl) (fun _ => ⟨fun _ => ⟨trivial, trivial⟩, trivial⟩) ?_ | exact Le.nils rfl (fun _ => ⟨fun _ => ⟨trivial, trivial⟩, trivial⟩) | refine Le.agg ?_ | refine Le.tup ?_ | exact Le.any _)), trivial⟩, ?_⟩
  cbv
  refine ⟨x.k, ⟨by ((repeat' first | exact LeL.nil | exact Le.refl _ | refine LeL.cons ?_ ?_ | exact Le.ic rfl | exact Le.bc rfl | exact Le.i rfl | exact Le.b rfl | exact Le.sl rfl | exact Le.nils rfl (fun _ => ⟨trivial, trivial⟩) | refine Le.lst rfl (fun _ _ => rfl) (fun _ => ⟨trivial, trivial⟩) ?_ | refine Le.lst rfl (fun _ _ => rfl) (fun _ => ⟨fun _ => ⟨trivial, trivial⟩, trivial⟩) ?_ | exact Le.nils rfl (fun _ => ⟨fun _ => ⟨trivial, trivial⟩, trivial⟩) | refine Le.agg ?_ | refine Le.tup ?_ | exact Le.any _)), trivial⟩, ?_⟩
  cbv
  refine ⟨⟨by decide⟩, ?_⟩
  refine Sat.freeze 0 rfl rfl ?_
  refine Sat.loop ctx21_ok ctx21_inl (lv := 2) (by kernel_rfl) 5 [(12, 4)] (fun q : Nat × Lk × List (List Int) => ⟨[.i .u64 (fun _ => x.k), .i .u8 (fun _ => x.n), .any, .any, .any, .spt [.i .u8 (fun _ => x.b0), .i .u8 (fun _ => x.b1), .i .u8 (fun _ => x.b2), .i .u8 (fun _ => x.b3)] 0, .bc false, .bc true, .ptr 1 0, .ptr 2 0, .ptr 3 0, .i .i64 (fun _ => (x.many : Int)), .own 4, .i .i64 (fun _ => (q.1 : Int))] ++ anys 115,
      [.dead, .fix 26 (Lk.cells fun _ => q.2.1), .fix 26 (Lk.cells fun _ => x.y 0), .fix 26 (Lk.cells fun _ => x.y 0), .dyn 23 1 cB (fun _ => q.2.2)]⟩)
    (fun q => q.1 ≤ x.many ∧ q.2.1 = x.x q.1 ∧ q.2.2 = x.all q.1) (fun q => x.many - q.1) (0, x.x 0, x.all 0) (by ((try cbv) <;> (repeat' (first | with_reducible exact trivial | with_reducible refine And.intro ?_ ?_)) <;> (try first | exact SlotLe.refl _ | exact SlotLe.dyn rfl | refine SlotLe.fix ?_ | refine SlotLe.dyn ?_) <;> ((repeat' first | exact LeL.nil | exact Le.refl _ | refine LeL.cons ?_ ?_ | exact Le.ic rfl | exact Le.bc rfl | exact Le.i rfl | exact Le.b rfl | exact Le.sl rfl | exact Le.nils rfl (fun _ => ⟨trivial, trivial⟩) | refine Le.lst rfl (fun _ _ => rfl) (fun _ => ⟨trivial, trivial⟩) ?_ | refine Le.lst rfl (fun _ _ => rfl) (fun _ => ⟨fun _ => ⟨trivial, trivial⟩, trivial⟩) ?_ | exact Le.nils rfl (fun _ => ⟨fun _ => ⟨trivial, trivial⟩, trivial⟩) | refine Le.agg ?_ | refine Le.tup ?_ | exact Le.any _))) <;> exact .i hmw) (by ((try cbv) <;> (repeat' (first | with_reducible exact trivial | with_reducible refine And.intro ?_ ?_)) <;> (try first | exact SlotLe.refl _ | exact SlotLe.dyn rfl | refine SlotLe.fix ?_ | refine SlotLe.dyn ?_) <;> ((repeat' first | exact LeL.nil | exact Le.refl _ | refine LeL.cons ?_ ?_ | exact Le.ic rfl | exact Le.bc rfl | exact Le.i rfl | exact Le.b rfl | exact Le.sl rfl | exact Le.nils rfl (fun _ => ⟨trivial, trivial⟩) | refine Le.lst rfl (fun _ _ => rfl) (fun _ => ⟨trivial, trivial⟩) ?_ | refine Le.lst rfl (fun _ _ => rfl) (fun _ => ⟨fun _ => ⟨trivial, trivial⟩, trivial⟩) ?_ | exact Le.nils rfl (fun _ => ⟨fun _ => ⟨trivial, trivial⟩, trivial⟩) | refine Le.agg ?_ | refine Le.tup ?_ | exact Le.any _)))) ⟨by simp only; omega, rfl, rfl⟩ ?_
  rintro ⟨i, X, A⟩ ⟨hi, hX, hA⟩
  simp only at hi hX hA
  cbv
  refine ⟨fun h2 => ?_, fun h2 => ?_⟩
  · have h2 := h2.out
    have hlt : i < x.many := by simp [ltB] at h2; ((try simp only [Go.Vc.natc] at *); omega)
    have hidx : (IntKind.i64.wrap ((i : Int) + IntKind.i64.wrap (IntKind.u8.wrap (x.n.tdiv 8)))).tmod 5 = (((i + x.n.toNat / 8) % 5 : Nat) : Int) := by
      rw [hd8, w64 (by omega) (by omega), tmod_pos (by omega)]
      omega
    have hidx5 : (((i + x.n.toNat / 8) % 5 : Nat) : Int) ≤ 4 := by omega
    obtain ⟨bb, hbb⟩ : ∃ l, l = x.b := ⟨_, rfl⟩
    have hmsg : x.msg i = (bb.take ((IntKind.i64.wrap ((i : Int) + IntKind.i64.wrap (IntKind.u8.wrap (x.n.tdiv 8)))).tmod 5).toNat).drop (0 : Int).toNat := by rw [hidx, hbb]; rfl
    cbv
    refine ⟨⟨by decide⟩, ⟨by decide⟩, bb, ⟨by rw [hbb]; rfl, by rw [hbb]; cbv; ((repeat' first | exact LeL.nil | exact Le.refl _ | refine LeL.cons ?_ ?_ | exact Le.ic rfl | exact Le.bc rfl | exact Le.i rfl | exact Le.b rfl | exact Le.sl rfl | exact Le.nils rfl (fun _ => ⟨trivial, trivial⟩) | refine Le.lst rfl (fun _ _ => rfl) (fun _ => ⟨trivial, trivial⟩) ?_ | refine Le.lst rfl (fun _ _ => rfl) (fun _ => ⟨fun _ => ⟨trivial, trivial⟩, trivial⟩) ?_ | exact Le.nils rfl (fun _ => ⟨fun _ => ⟨trivial, trivial⟩, trivial⟩) | refine Le.agg ?_ | refine Le.tup ?_ | exact Le.any _)), Int.le_refl _, by show (0 : Int) ≤ (IntKind.i64.wrap ((i : Int) + IntKind.i64.wrap (IntKind.u8.wrap (x.n.tdiv 8)))).tmod 5; rw [show (IntKind.i64.wrap ((i : Int) + IntKind.i64.wrap (IntKind.u8.wrap (x.n.tdiv 8)))).tmod 5 = _ from hidx]; exact Int.natCast_nonneg _, by show (IntKind.i64.wrap ((i : Int) + IntKind.i64.wrap (IntKind.u8.wrap (x.n.tdiv 8)))).tmod 5 ≤ 4; rw [show (IntKind.i64.wrap ((i : Int) + IntKind.i64.wrap (IntKind.u8.wrap (x.n.tdiv 8)))).tmod 5 = _ from hidx]; exact hidx5⟩, ?_⟩
    obtain ⟨m, hm⟩ : ∃ m, m = x.msg i := ⟨_, rfl⟩
    have hml : m.length ≤ 4 := by rw [hm]; exact x.msg_len i
    have hsn := x.snd (i := i) (by omega)
    have hall := x.all_succ i
    have hlen := x.all_len i
    have hsm := x.sm (i := i) (by omega)
    rw [← hm] at hsn hall hmsg
    rw [← hX] at hsn
    rw [← hA] at hall hlen hsm
    have hget : (A ++ [m])[i]? = some m := by rw [← hlen]; simp
    have hb1 : (A.length + 1) * 24 ≤ 140737488355328 ∧ A.length + 1 ≤ 9223372036854775807 := by omega
    have hXo : Sm X.out ∧ Sm X.ins := by rw [hX, show (x.x i).out = x.all i from rfl, ← hA]; exact ⟨hsm, Sm_nil⟩
    cbv
    refine ⟨[m], ⟨by cbv; ((repeat' first | exact LeL.nil | exact Le.refl _ | refine LeL.cons ?_ ?_ | exact Le.ic rfl | exact Le.bc rfl | exact Le.i rfl | exact Le.b rfl | exact Le.sl rfl | exact Le.nils rfl (fun _ => ⟨trivial, trivial⟩) | refine Le.lst rfl (fun _ _ => rfl) (fun _ => ⟨trivial, trivial⟩) ?_ | refine Le.lst rfl (fun _ _ => rfl) (fun _ => ⟨fun _ => ⟨trivial, trivial⟩, trivial⟩) ?_ | exact Le.nils rfl (fun _ => ⟨fun _ => ⟨trivial, trivial⟩, trivial⟩) | refine Le.agg ?_ | refine Le.tup ?_ | exact Le.any _)); exact .sl hmsg.symm, hb1⟩, ?_⟩
    cbv
    refine ⟨⟨by show 0 ≤ (i : Int) ∧ (i : Int).toNat < (A ++ [m]).length; rw [List.length_append, hlen]; exact ⟨Int.natCast_nonneg i, Nat.lt_succ_self i⟩⟩, m, ⟨hget, rfl⟩, ?_⟩
    cbv
    refine ⟨⟨X, m⟩, ⟨by ((repeat' first | exact LeL.nil | exact Le.refl _ | refine LeL.cons ?_ ?_ | exact Le.ic rfl | exact Le.bc rfl | exact Le.i rfl | exact Le.b rfl | exact Le.sl rfl | exact Le.nils rfl (fun _ => ⟨trivial, trivial⟩) | refine Le.lst rfl (fun _ _ => rfl) (fun _ => ⟨trivial, trivial⟩) ?_ | refine Le.lst rfl (fun _ _ => rfl) (fun _ => ⟨fun _ => ⟨trivial, trivial⟩, trivial⟩) ?_ | exact Le.nils rfl (fun _ => ⟨fun _ => ⟨trivial, trivial⟩, trivial⟩) | refine Le.agg ?_ | refine Le.tup ?_ | exact Le.any _)), hXo.1, hXo.2, by show m.length ≤ 1000000; omega⟩, ?_⟩
    cbv
    refine ⟨fun h6 => ?_, fun _ => ?_⟩
    · have h6 : (!eqB (sndE X m) 0) = true := h6.out
      rw [hsn.1] at h6; simp [eqB] at h6
    cbv
    refine ⟨(i + 1, sndL X m, A ++ [m]), by ((try cbv) <;> (repeat' (first | with_reducible exact trivial | with_reducible refine And.intro ?_ ?_)) <;> (try first | exact SlotLe.refl _ | exact SlotLe.dyn rfl | refine SlotLe.fix ?_ | refine SlotLe.dyn ?_) <;> ((repeat' first | exact LeL.nil | exact Le.refl _ | refine LeL.cons ?_ ?_ | exact Le.ic rfl | exact Le.bc rfl | exact Le.i rfl | exact Le.b rfl | exact Le.sl rfl | exact Le.nils rfl (fun _ => ⟨trivial, trivial⟩) | refine Le.lst rfl (fun _ _ => rfl) (fun _ => ⟨trivial, trivial⟩) ?_ | refine Le.lst rfl (fun _ _ => rfl) (fun _ => ⟨fun _ => ⟨trivial, trivial⟩, trivial⟩) ?_ | exact Le.nils rfl (fun _ => ⟨fun _ => ⟨trivial, trivial⟩, trivial⟩) | refine Le.agg ?_ | refine Le.tup ?_ | exact Le.any _))) <;> (refine .i ?_; show IntKind.i64.wrap ((i : Int) + 1) = ((i + 1 : Nat) : Int); rw [w64 (by omega) (by omega)]; rfl), by ((try cbv) <;> (repeat' (first | with_reducible exact trivial | with_reducible refine And.intro ?_ ?_)) <;> (try first | exact SlotLe.refl _ | exact SlotLe.dyn rfl | refine SlotLe.fix ?_ | refine SlotLe.dyn ?_) <;> ((repeat' first | exact LeL.nil | exact Le.refl _ | refine LeL.cons ?_ ?_ | exact Le.ic rfl | exact Le.bc rfl | exact Le.i rfl | exact Le.b rfl | exact Le.sl rfl | exact Le.nils rfl (fun _ => ⟨trivial, trivial⟩) | refine Le.lst rfl (fun _ _ => rfl) (fun _ => ⟨trivial, trivial⟩) ?_ | refine Le.lst rfl (fun _ _ => rfl) (fun _ => ⟨fun _ => ⟨trivial, trivial⟩, trivial⟩) ?_ | exact Le.nils rfl (fun _ => ⟨fun _ => ⟨trivial, trivial⟩, trivial⟩) | refine Le.agg ?_ | refine Le.tup ?_ | exact Le.any _))), ⟨⟨by simp only; omega, hsn.2, hall.symm⟩, by show x.many - (i + 1) < x.many - i; omega⟩⟩
  have h2 : ltB (i : Int) (x.many : Int) = false := h2.out
  have him : i = x.many := by simp [ltB] at h2; omega
  subst him
  cbv
  refine Sat.loop ctx21_ok ctx21_inl (lv := 2) (by kernel_rfl) 5 [(12, 4)] (fun q : Nat × Lk × Lk => ⟨[.i .u64 (fun _ => x.k), .i .u8 (fun _ => x.n), .any, .any, .any, .any, .bc false, .bc true, .ptr 1 0, .ptr 2 0, .ptr 3 0, .i .i64 (fun _ => (x.many : Int)), .own 4, .any, .any, .i .i64 (fun _ => (q.1 : Int))] ++ anys 113,
      [.dead, .fix 26 (Lk.cells fun _ => X), .fix 26 (Lk.cells fun _ => q.2.1), .fix 26 (Lk.cells fun _ => q.2.2), .dyn 23 1 cB (fun _ => A)]⟩)
    (fun q => q.1 ≤ x.many ∧ q.2.1 = x.y q.1 ∧ q.2.2 = x.z q.1) (fun q => x.many - q.1) (0, x.y 0, x.y 0) (by ((try cbv) <;> (repeat' (first | with_reducible exact trivial | with_reducible refine And.intro ?_ ?_)) <;> (try first | exact SlotLe.refl _ | exact SlotLe.dyn rfl | refine SlotLe.fix ?_ | refine SlotLe.dyn ?_) <;> ((repeat' first | exact LeL.nil | exact Le.refl _ | refine LeL.cons ?_ ?_ | exact Le.ic rfl | exact Le.bc rfl | exact Le.i rfl | exact Le.b rfl | exact Le.sl rfl | exact Le.nils rfl (fun _ => ⟨trivial, trivial⟩) | refine Le.lst rfl (fun _ _ => rfl) (fun _ => ⟨trivial, trivial⟩) ?_ | refine Le.lst rfl (fun _ _ => rfl) (fun _ => ⟨fun _ => ⟨trivial, trivial⟩, trivial⟩) ?_ | exact Le.nils rfl (fun _ => ⟨fun _ => ⟨trivial, trivial⟩, trivial⟩) | refine Le.agg ?_ | refine Le.tup ?_ | exact Le.any _)))) (by ((try cbv) <;> (repeat' (first | with_reducible exact trivial | with_reducible refine And.intro ?_ ?_)) <;> (try first | exact SlotLe.refl _ | exact SlotLe.dyn rfl | refine SlotLe.fix ?_ | refine SlotLe.dyn ?_) <;> ((repeat' first | exact LeL.nil | exact Le.refl _ | refine LeL.cons ?_ ?_ | exact Le.ic rfl | exact Le.bc rfl | exact Le.i rfl | exact Le.b rfl | exact Le.sl rfl | exact Le.nils rfl (fun _ => ⟨trivial, trivial⟩) | refine Le.lst rfl (fun _ _ => rfl) (fun _ => ⟨trivial, trivial⟩) ?_ | refine Le.lst rfl (fun _ _ => rfl) (fun _ => ⟨fun _ => ⟨trivial, trivial⟩, trivial⟩) ?_ | exact Le.nils rfl (fun _ => ⟨fun _ => ⟨trivial, trivial⟩, trivial⟩) | refine Le.agg ?_ | refine Le.tup ?_ | exact Le.any _)))) ⟨by simp only; omega, rfl, (if_pos hm1).symm⟩ ?_
  rintro ⟨j, Y, Z⟩ ⟨hj, hY, hZ⟩
  simp only at hj hY hZ
  cbv
  refine ⟨fun h2 => ?_, fun h2 => ?_⟩
  · have h2 := h2.out
    have hlt : j < x.many := by simp [ltB] at h2; ((try simp only [Go.Vc.natc] at *); omega)
    have p1 := x.p (i := j) (n := x.many) hlt hmany
    have p2 := x.p (i := x.many - 1 - j) (n := x.many) (by omega) hmany
    have r1 := x.rec_y (i := j) (by omega)
    have r2 := x.rec_z hlt
    have hYo := x.y_ok (i := j) (by omega)
    have hZo := x.z_ok j
    have hXs : Sm X.out := by rw [hX]; exact x.sm hmany
    rw [← hX] at p1 p2
    rw [← hY] at r1 hYo
    rw [← hZ] at r2 hZo
    have hjj : IntKind.i64.wrap (IntKind.i64.wrap ((x.many : Int) - 1) - (j : Int)) = ((x.many - 1 - j : Nat) : Int) := by
      rw [w64 (n := (x.many : Int) - 1) (by omega) (by omega), w64 (by omega) (by omega)]; omega
    obtain ⟨jj, hjv⟩ : ∃ jj : Nat, jj = x.many - 1 - j := ⟨_, rfl⟩
    rw [← hjv] at p2 r2 hjj
    obtain ⟨P1, hP1⟩ : ∃ P, P = pktP X (j : Int) := ⟨_, rfl⟩
    obtain ⟨P2, hP2⟩ : ∃ P, P = pktP X (jj : Int) := ⟨_, rfl⟩
    have e1 : P1 = x.pk j := hP1.trans p1.2
    have e2 : P2 = x.pk jj := hP2.trans p2.2
    rw [← e1] at r1
    rw [← e2] at r2
    have k1 : LP.Ok ⟨Y, P1⟩ := hYo.lp (by rw [e1]; have := x.msg_len j; show (x.msg j).length ≤ 1000000; omega) (by rw [e1]; show (0 : Int) ≤ _; omega)
    have k2 : LP.Ok ⟨Z, P2⟩ := hZo.lp (by rw [e2]; have := x.msg_len jj; show (x.msg jj).length ≤ 1000000; omega) (by rw [e2]; show (0 : Int) ≤ _; omega)
    cbv
    refine ⟨⟨X, (j : Int)⟩, ⟨by ((repeat' first | exact LeL.nil | exact Le.refl _ | refine LeL.cons ?_ ?_ | exact Le.ic rfl | exact Le.bc rfl | exact Le.i rfl | exact Le.b rfl | exact Le.sl rfl | exact Le.nils rfl (fun _ => ⟨trivial, trivial⟩) | refine Le.lst rfl (fun _ _ => rfl) (fun _ => ⟨trivial, trivial⟩) ?_ | refine Le.lst rfl (fun _ _ => rfl) (fun _ => ⟨fun _ => ⟨trivial, trivial⟩, trivial⟩) ?_ | exact Le.nils rfl (fun _ => ⟨fun _ => ⟨trivial, trivial⟩, trivial⟩) | refine Le.agg ?_ | refine Le.tup ?_ | exact Le.any _)), hXs⟩, ?_⟩
    cbv
    refine ⟨⟨X, (jj : Int)⟩, ⟨by ((repeat' first | exact LeL.nil | exact Le.refl _ | refine LeL.cons ?_ ?_ | exact Le.ic rfl | exact Le.bc rfl | exact Le.i rfl | exact Le.b rfl | exact Le.sl rfl | exact Le.nils rfl (fun _ => ⟨trivial, trivial⟩) | refine Le.lst rfl (fun _ _ => rfl) (fun _ => ⟨trivial, trivial⟩) ?_ | refine Le.lst rfl (fun _ _ => rfl) (fun _ => ⟨fun _ => ⟨trivial, trivial⟩, trivial⟩) ?_ | exact Le.nils rfl (fun _ => ⟨fun _ => ⟨trivial, trivial⟩, trivial⟩) | refine Le.agg ?_ | refine Le.tup ?_ | exact Le.any _)); exact .i hjj, hXs⟩, ?_⟩
    cbv
    refine ⟨⟨Y, P1⟩, ⟨by rw [hP1]; ((repeat' first | exact LeL.nil | exact Le.refl _ | refine LeL.cons ?_ ?_ | exact Le.ic rfl | exact Le.bc rfl | exact Le.i rfl | exact Le.b rfl | exact Le.sl rfl | exact Le.nils rfl (fun _ => ⟨trivial, trivial⟩) | refine Le.lst rfl (fun _ _ => rfl) (fun _ => ⟨trivial, trivial⟩) ?_ | refine Le.lst rfl (fun _ _ => rfl) (fun _ => ⟨fun _ => ⟨trivial, trivial⟩, trivial⟩) ?_ | exact Le.nils rfl (fun _ => ⟨fun _ => ⟨trivial, trivial⟩, trivial⟩) | refine Le.agg ?_ | refine Le.tup ?_ | exact Le.any _)), k1⟩, ?_⟩
    cbv
    refine ⟨⟨Z, P2⟩, ⟨by rw [hP2]; ((repeat' first | exact LeL.nil | exact Le.refl _ | refine LeL.cons ?_ ?_ | exact Le.ic rfl | exact Le.bc rfl | exact Le.i rfl | exact Le.b rfl | exact Le.sl rfl | exact Le.nils rfl (fun _ => ⟨trivial, trivial⟩) | refine Le.lst rfl (fun _ _ => rfl) (fun _ => ⟨trivial, trivial⟩) ?_ | refine Le.lst rfl (fun _ _ => rfl) (fun _ => ⟨fun _ => ⟨trivial, trivial⟩, trivial⟩) ?_ | exact Le.nils rfl (fun _ => ⟨fun _ => ⟨trivial, trivial⟩, trivial⟩) | refine Le.agg ?_ | refine Le.tup ?_ | exact Le.any _)), k2⟩, ?_⟩
    cbv
    refine ⟨fun h6 => ?_, fun _ => ?_⟩
    · have h6 : (!eqB (pktE X (j : Int)) 0) = true := h6.out
      rw [p1.1] at h6; simp [eqB] at h6
    cbv
    refine ⟨fun h6 => ?_, fun _ => ?_⟩
    · have h6 : (!eqB (pktE X (jj : Int)) 0) = true := h6.out
      rw [p2.1] at h6; simp [eqB] at h6
    cbv
    refine ⟨fun h6 => ?_, fun _ => ?_⟩
    · have h6 : (!eqB (recE Y P1) 0) = true := h6.out
      rw [r1.1] at h6; simp [eqB] at h6
    cbv
    refine ⟨fun h6 => ?_, fun _ => ?_⟩
    · have h6 : (!eqB (recE Z P2) 0) = true := h6.out
      rw [r2.1] at h6; simp [eqB] at h6
    cbv
    refine ⟨(j + 1, recL Y P1, recL Z P2), by ((try cbv) <;> (repeat' (first | with_reducible exact trivial | with_reducible refine And.intro ?_ ?_)) <;> (try first | exact SlotLe.refl _ | exact SlotLe.dyn rfl | refine SlotLe.fix ?_ | refine SlotLe.dyn ?_) <;> ((repeat' first | exact LeL.nil | exact Le.refl _ | refine LeL.cons ?_ ?_ | exact Le.ic rfl | exact Le.bc rfl | exact Le.i rfl | exact Le.b rfl | exact Le.sl rfl | exact Le.nils rfl (fun _ => ⟨trivial, trivial⟩) | refine Le.lst rfl (fun _ _ => rfl) (fun _ => ⟨trivial, trivial⟩) ?_ | refine Le.lst rfl (fun _ _ => rfl) (fun _ => ⟨fun _ => ⟨trivial, trivial⟩, trivial⟩) ?_ | exact Le.nils rfl (fun _ => ⟨fun _ => ⟨trivial, trivial⟩, trivial⟩) | refine Le.agg ?_ | refine Le.tup ?_ | exact Le.any _))) <;> (refine .i ?_; show IntKind.i64.wrap ((j : Int) + 1) = ((j + 1 : Nat) : Int); rw [w64 (by omega) (by omega)]; rfl), by ((try cbv) <;> (repeat' (first | with_reducible exact trivial | with_reducible refine And.intro ?_ ?_)) <;> (try first | exact SlotLe.refl _ | exact SlotLe.dyn rfl | refine SlotLe.fix ?_ | refine SlotLe.dyn ?_) <;> ((repeat' first | exact LeL.nil | exact Le.refl _ | refine LeL.cons ?_ ?_ | exact Le.ic rfl | exact Le.bc rfl | exact Le.i rfl | exact Le.b rfl | exact Le.sl rfl | exact Le.nils rfl (fun _ => ⟨trivial, trivial⟩) | refine Le.lst rfl (fun _ _ => rfl) (fun _ => ⟨trivial, trivial⟩) ?_ | refine Le.lst rfl (fun _ _ => rfl) (fun _ => ⟨fun _ => ⟨trivial, trivial⟩, trivial⟩) ?_ | exact Le.nils rfl (fun _ => ⟨fun _ => ⟨trivial, trivial⟩, trivial⟩) | refine Le.agg ?_ | refine Le.tup ?_ | exact Le.any _))), ⟨⟨by simp only; omega, r1.2, r2.2⟩, by show x.many - (j + 1) < x.many - j; omega⟩⟩
  have h2 : ltB (j : Int) (x.many : Int) = false := h2.out
  have hjm : j = x.many := by simp [ltB] at h2; omega
  subst hjm
  have hz1 : x.z x.many = x.y 1 := if_neg (Nat.lt_irrefl _)
  have hYi : Y.ins = A := by rw [hY, hA]; rfl
  have hYg : Y.got = (x.many : Int) := by rw [hY]; rfl
  have hZi : Z.ins = A.take 1 := by
    rw [hZ, hz1, hA]
    show x.all 1 = (x.all x.many).take 1
    apply List.ext_getElem?
    intro i
    rw [List.getElem?_take]
    by_cases hi0 : i < 1
    · rw [if_pos hi0, x.all_get hi0, x.all_get (Nat.lt_of_lt_of_le hi0 hm1)]
    · rw [if_neg hi0, List.getElem?_eq_none (by rw [x.all_len]; omega)]
  have hZg : Z.got = 1 := by rw [hZ, hz1]; rfl
  have hAl : A.length = x.many := by rw [hA]; exact x.all_len _
  have hbY : Bs Y.ins := by rw [hYi, hA]; exact (x.sm hmany).bs
  have hbZ : Bs Z.ins := by
    have h := (x.sm (i := 1) (by omega)).bs
    rw [hZ, hz1]; exact h
  cbv
  refine ⟨⟨Y.ins, A⟩, ⟨by ((repeat' first | exact LeL.nil | exact Le.refl _ | refine LeL.cons ?_ ?_ | exact Le.ic rfl | exact Le.bc rfl | exact Le.i rfl | exact Le.b rfl | exact Le.sl rfl | exact Le.nils rfl (fun _ => ⟨trivial, trivial⟩) | refine Le.lst rfl (fun _ _ => rfl) (fun _ => ⟨trivial, trivial⟩) ?_ | refine Le.lst rfl (fun _ _ => rfl) (fun _ => ⟨fun _ => ⟨trivial, trivial⟩, trivial⟩) ?_ | exact Le.nils rfl (fun _ => ⟨fun _ => ⟨trivial, trivial⟩, trivial⟩) | refine Le.agg ?_ | refine Le.tup ?_ | exact Le.any _)), hbY, rfl⟩, ?_⟩
  cbv
  refine ⟨fun _ => ?_, fun h6 => ?_⟩
  rotate_left
  · have h6 : (Y.ins == A) = false := h6.out
    rw [hYi] at h6; simp at h6
  cbv
  refine ⟨fun _ => ?_, fun h6 => ?_⟩
  rotate_left
  · have h6 : eqB Y.got (x.many : Int) = false := h6.out
    rw [hYg] at h6; simp [eqB] at h6
  cbv
  refine ⟨⟨by show (0 : Int) ≤ 0 ∧ (0 : Int) ≤ 1 ∧ (1 : Int) ≤ (A.length : Int); rw [show A.length = x.many from hAl]; exact ⟨Int.le_refl _, by decide, by ((try simp only [Go.Vc.natc] at *); omega)⟩⟩, ?_⟩
  obtain ⟨A1, hA1⟩ : ∃ l, l = A.take 1 := ⟨_, rfl⟩
  rw [← hA1] at hZi
  refine ⟨⟨Z.ins, A1⟩, ⟨by cbv; ((repeat' first | exact LeL.nil | exact Le.refl _ | refine LeL.cons ?_ ?_ | exact Le.ic rfl | exact Le.bc rfl | exact Le.i rfl | exact Le.b rfl | exact Le.sl rfl | exact Le.nils rfl (fun _ => ⟨trivial, trivial⟩) | refine Le.lst rfl (fun _ _ => rfl) (fun _ => ⟨trivial, trivial⟩) ?_ | refine Le.lst rfl (fun _ _ => rfl) (fun _ => ⟨fun _ => ⟨trivial, trivial⟩, trivial⟩) ?_ | exact Le.nils rfl (fun _ => ⟨fun _ => ⟨trivial, trivial⟩, trivial⟩) | refine Le.agg ?_ | refine Le.tup ?_ | exact Le.any _)); exact .sl (by rw [hA1]; rfl), hbZ, rfl⟩, ?_⟩
  cbv
  refine ⟨fun _ => ?_, fun h6 => ?_⟩
  rotate_left
  · have h6 : (Z.ins == A1) = false := h6.out
    rw [hZi] at h6; simp at h6
  cbv
  refine ⟨fun _ => ?_, fun h6 => ?_⟩
  rotate_left
  · have h6 : eqB Z.got 1 = false := h6.out
    rw [hZg] at h6; simp [eqB] at h6
  cbv
  exact ⟨.refl _⟩
end Go.Proofs.Tran
