/-
  The transport is as the reference has it: the walk.
-/
import Derived.Test.YtcejljfammcflaaTranL
set_option linter.unusedVariables false
set_option linter.unusedSimpArgs false
set_option maxRecDepth 10000
set_option maxHeartbeats 1000000
namespace Go.Proofs.Tran
open Go Go.Vc

structure KBZ where
  k : Int
  b : List Int
  z : Od
def matS : Vc.Spec where
  α := KBZ
  args y := [.i .u64 (fun _ => y.k), .sl 1 cU8 (fun _ => y.b), .agg (Od.cells fun _ => y.z)]
  pre y := (∀ v ∈ y.b, 0 ≤ v ∧ v < 256) ∧ y.z.p.ack ≤ 9223372036854775807
  res y := .bc true
theorem small_of {z : Od} (h : z.small = true) : z.l.out.length ≤ 40 ∧ z.l.ins.length ≤ 70 ∧ z.p.data.length ≤ 300 ∧ z.d.length ≤ 300 := by
  simp only [Od.small, Bool.and_eq_true, decide_eq_true_eq] at h
  exact ⟨h.1.1.1.1.1, h.1.1.1.1.2, h.1.1.1.2, h.1.1.2⟩
theorem Sm_nil : Sm [] := ⟨by simp, by simp⟩
theorem Lk.same_refl (a : Lk) : a.same a = true := (Lk.same_iff a a).2 rfl
theorem Pk.same_refl (a : Pk) : a.same a = true := (Pk.same_iff a a).2 rfl
theorem takD_le {l : Lk} (h : l.Ok) : (takD l).length ≤ 256 := by
  unfold takD
  cases e : l.ins with
  | nil => simp
  | cons a r => exact h.si a (by rw [e]; simp)
theorem pktP_le {l : Lk} (h : l.Ok) (i : Int) : (pktP l i).data.length ≤ 256 := by
  unfold pktP
  split
  · rename_i hi
    show (l.out.getD i.toNat []).length ≤ 256
    rw [List.getD_eq_getElem?_getD]
    cases e : l.out[i.toNat]? with
    | none => simp
    | some v => exact h.so v (List.mem_of_getElem? e)
  · show 0 ≤ 256; decide
theorem Mat_ok : SpecOk (PP ()) 3 matS := by
  refine spec_of_vc (lv := 2) ctx17_ok ctx17_inl (fnOk_of Try.func3 (by kernel_rfl)) (by kernel_rfl) (fun a => ⟨trivial, fun y => (cU8_ok y).1, Od.lf fun _ => a.z, trivial⟩) (fun a => trivial) ?_
  intro x hx
  have hx : (∀ v ∈ x.b, 0 ≤ v ∧ v < 256) ∧ x.z.p.ack ≤ 9223372036854775807 := hx
  have hb := hx.1
  have hack := hx.2
  have hok := lkF_ok x.k hb
  obtain ⟨l, hl⟩ : ∃ l, l = lkF x.k x.b := ⟨_, rfl⟩
  rw [← hl] at hok
  have hsm := hok.sm
  have hso := hsm.1
  have hsi := hsm.2
  refine ⟨?_⟩
  cbv
  refine ⟨(), ⟨by ((repeat' first | exact LeL.nil | exact Le.refl _ | refine LeL.cons ?_ ?_ | exact Le.ic rfl | exact Le.bc rfl | exact Le.i rfl | exact Le.b rfl | exact Le.sl rfl | exact Le.nils rfl (fun _ => ⟨trivial, trivial⟩) | refine Le.lst rfl (fun _ _ => rfl) (fun _ => ⟨trivial, trivial⟩) ?_ | refine Le.lst rfl (fun _ _ => rfl) (fun _ => ⟨fun _ => ⟨trivial, trivial⟩, trivial⟩) ?_ | exact Le.nils rfl (fun _ => ⟨fun _ => ⟨trivial, trivial⟩, trivial⟩) | refine Le.agg ?_ | refine Le.tup ?_ | exact Le.any _)), trivial⟩, ?_⟩
  cbv
  refine ⟨x.z, ⟨by ((repeat' first | exact LeL.nil | exact Le.refl _ | refine LeL.cons ?_ ?_ | exact Le.ic rfl | exact Le.bc rfl | exact Le.i rfl | exact Le.b rfl | exact Le.sl rfl | exact Le.nils rfl (fun _ => ⟨trivial, trivial⟩) | refine Le.lst rfl (fun _ _ => rfl) (fun _ => ⟨trivial, trivial⟩) ?_ | refine Le.lst rfl (fun _ _ => rfl) (fun _ => ⟨fun _ => ⟨trivial, trivial⟩, trivial⟩) ?_ | exact Le.nils rfl (fun _ => ⟨fun _ => ⟨trivial, trivial⟩, trivial⟩) | refine Le.agg ?_ | refine Le.tup ?_ | exact Le.any _)), trivial⟩, ?_⟩
  cbv
  refine ⟨fun h => ?_, fun h => ?_⟩
  · cbv
    exact ⟨.refl _⟩
  have h : (!x.z.small) = false := h.out
  have hs : x.z.small = true := by simpa using h
  have hz := small_of hs
  have hpd : x.z.p.data.length ≤ 1000000 := by have := hz.2.2.1; omega
  have hdd : x.z.d.length ≤ 1000000 := by have := hz.2.2.2; omega
  cbv
  refine ⟨⟨x.k, x.b⟩, ⟨by ((repeat' first | exact LeL.nil | exact Le.refl _ | refine LeL.cons ?_ ?_ | exact Le.ic rfl | exact Le.bc rfl | exact Le.i rfl | exact Le.b rfl | exact Le.sl rfl | exact Le.nils rfl (fun _ => ⟨trivial, trivial⟩) | refine Le.lst rfl (fun _ _ => rfl) (fun _ => ⟨trivial, trivial⟩) ?_ | refine Le.lst rfl (fun _ _ => rfl) (fun _ => ⟨fun _ => ⟨trivial, trivial⟩, trivial⟩) ?_ | exact Le.nils rfl (fun _ => ⟨fun _ => ⟨trivial, trivial⟩, trivial⟩) | refine Le.agg ?_ | refine Le.tup ?_ | exact Le.any _)), trivial, hb⟩, ?_⟩
  cbv
  refine ⟨x.k, ⟨by ((repeat' first | exact LeL.nil | exact Le.refl _ | refine LeL.cons ?_ ?_ | exact Le.ic rfl | exact Le.bc rfl | exact Le.i rfl | exact Le.b rfl | exact Le.sl rfl | exact Le.nils rfl (fun _ => ⟨trivial, trivial⟩) | refine Le.lst rfl (fun _ _ => rfl) (fun _ => ⟨trivial, trivial⟩) ?_ | refine Le.lst rfl (fun _ _ => rfl) (fun _ => ⟨fun _ => ⟨trivial, trivial⟩, trivial⟩) ?_ | exact Le.nils rfl (fun _ => ⟨fun _ => ⟨trivial, trivial⟩, trivial⟩) | refine Le.agg ?_ | refine Le.tup ?_ | exact Le.any _)), trivial⟩, ?_⟩
  cbv
  refine ⟨⟨pairA x.k, pairA x.k⟩, ⟨by ((repeat' first | exact LeL.nil | exact Le.refl _ | refine LeL.cons ?_ ?_ | exact Le.ic rfl | exact Le.bc rfl | exact Le.i rfl | exact Le.b rfl | exact Le.sl rfl | exact Le.nils rfl (fun _ => ⟨trivial, trivial⟩) | refine Le.lst rfl (fun _ _ => rfl) (fun _ => ⟨trivial, trivial⟩) ?_ | refine Le.lst rfl (fun _ _ => rfl) (fun _ => ⟨fun _ => ⟨trivial, trivial⟩, trivial⟩) ?_ | exact Le.nils rfl (fun _ => ⟨fun _ => ⟨trivial, trivial⟩, trivial⟩) | refine Le.agg ?_ | refine Le.tup ?_ | exact Le.any _)), Sm_nil.bs, Sm_nil.bs⟩, ?_⟩
  cbv
  refine ⟨fun h6 => ?_, fun _ => ?_⟩
  · have h6 := h6.out
    have h6 : (!(pairA x.k).same (pairA x.k)) = true := h6
    rw [Lk.same_refl] at h6; cases h6
  cbv
  refine ⟨⟨pairA (oth x.k), pairA (oth x.k)⟩, ⟨by rw [oth_eq]; ((repeat' first | exact LeL.nil | exact Le.refl _ | refine LeL.cons ?_ ?_ | exact Le.ic rfl | exact Le.bc rfl | exact Le.i rfl | exact Le.b rfl | exact Le.sl rfl | exact Le.nils rfl (fun _ => ⟨trivial, trivial⟩) | refine Le.lst rfl (fun _ _ => rfl) (fun _ => ⟨trivial, trivial⟩) ?_ | refine Le.lst rfl (fun _ _ => rfl) (fun _ => ⟨fun _ => ⟨trivial, trivial⟩, trivial⟩) ?_ | exact Le.nils rfl (fun _ => ⟨fun _ => ⟨trivial, trivial⟩, trivial⟩) | refine Le.agg ?_ | refine Le.tup ?_ | exact Le.any _)), Sm_nil.bs, Sm_nil.bs⟩, ?_⟩
  cbv
  refine ⟨fun h6 => ?_, fun _ => ?_⟩
  · have h6 := h6.out
    have h6 : (!(pairA (oth x.k)).same (pairA (oth x.k))) = true := h6
    rw [Lk.same_refl] at h6; cases h6
  cbv
  refine ⟨l, ⟨by rw [hl]; ((repeat' first | exact LeL.nil | exact Le.refl _ | refine LeL.cons ?_ ?_ | exact Le.ic rfl | exact Le.bc rfl | exact Le.i rfl | exact Le.b rfl | exact Le.sl rfl | exact Le.nils rfl (fun _ => ⟨trivial, trivial⟩) | refine Le.lst rfl (fun _ _ => rfl) (fun _ => ⟨trivial, trivial⟩) ?_ | refine Le.lst rfl (fun _ _ => rfl) (fun _ => ⟨fun _ => ⟨trivial, trivial⟩, trivial⟩) ?_ | exact Le.nils rfl (fun _ => ⟨fun _ => ⟨trivial, trivial⟩, trivial⟩) | refine Le.agg ?_ | refine Le.tup ?_ | exact Le.any _)), by have := hso.1; omega, by have := hsi.1; omega⟩, ?_⟩
  cbv
  refine ⟨fun h6 => ?_, fun _ => ?_⟩
  · have h6 := h6.out
    have h6 : (!l.valid) = true := h6
    rw [(valid_iff l).2 hok] at h6; cases h6
  cbv
  refine ⟨x.z.l, ⟨by ((repeat' first | exact LeL.nil | exact Le.refl _ | refine LeL.cons ?_ ?_ | exact Le.ic rfl | exact Le.bc rfl | exact Le.i rfl | exact Le.b rfl | exact Le.sl rfl | exact Le.nils rfl (fun _ => ⟨trivial, trivial⟩) | refine Le.lst rfl (fun _ _ => rfl) (fun _ => ⟨trivial, trivial⟩) ?_ | refine Le.lst rfl (fun _ _ => rfl) (fun _ => ⟨fun _ => ⟨trivial, trivial⟩, trivial⟩) ?_ | exact Le.nils rfl (fun _ => ⟨fun _ => ⟨trivial, trivial⟩, trivial⟩) | refine Le.agg ?_ | refine Le.tup ?_ | exact Le.any _)), by omega, by omega⟩, ?_⟩
  cbv
  refine ⟨x.z.l, ⟨by ((repeat' first | exact LeL.nil | exact Le.refl _ | refine LeL.cons ?_ ?_ | exact Le.ic rfl | exact Le.bc rfl | exact Le.i rfl | exact Le.b rfl | exact Le.sl rfl | exact Le.nils rfl (fun _ => ⟨trivial, trivial⟩) | refine Le.lst rfl (fun _ _ => rfl) (fun _ => ⟨trivial, trivial⟩) ?_ | refine Le.lst rfl (fun _ _ => rfl) (fun _ => ⟨fun _ => ⟨trivial, trivial⟩, trivial⟩) ?_ | exact Le.nils rfl (fun _ => ⟨fun _ => ⟨trivial, trivial⟩, trivial⟩) | refine Le.agg ?_ | refine Le.tup ?_ | exact Le.any _)), by omega, by omega⟩, ?_⟩
  cbv
  refine ⟨fun h6 => ?_, fun _ => ?_⟩
  · have h6 := h6.out
    simp at h6
  obtain ⟨ck, hck⟩ : ∃ c, c = x.z.p.tag x.k := ⟨_, rfl⟩
  obtain ⟨rp, hrp⟩ : ∃ r : Pk, r = ⟨x.z.p.seq, x.z.p.ack, x.z.p.data, ck⟩ := ⟨_, rfl⟩
  have okP : LP.Ok ⟨l, x.z.p⟩ := hok.lp hpd hack
  have okR : LP.Ok ⟨l, rp⟩ := hok.lp (by rw [hrp]; exact hpd) (by rw [hrp]; exact hack)
  have sr := snd_ref hok x.z.d
  have ok1 := (sndL_ok hok (d := x.z.d)).sm
  have ok2 := (recL_ok hok x.z.p).sm
  have ok3 := (recL_ok hok rp).sm
  have ok4 := (takL_ok hok).sm
  obtain ⟨s1, hs1⟩ : ∃ s, s = sndL l x.z.d := ⟨_, rfl⟩
  obtain ⟨e1, he1⟩ : ∃ s, s = sndE l x.z.d := ⟨_, rfl⟩
  obtain ⟨s2, hs2⟩ : ∃ s, s = recL l x.z.p := ⟨_, rfl⟩
  obtain ⟨e2, he2⟩ : ∃ s, s = recE l x.z.p := ⟨_, rfl⟩
  obtain ⟨s3, hs3⟩ : ∃ s, s = recL l rp := ⟨_, rfl⟩
  obtain ⟨e3, he3⟩ : ∃ s, s = recE l rp := ⟨_, rfl⟩
  obtain ⟨s4, hs4⟩ : ∃ s, s = takL l := ⟨_, rfl⟩
  obtain ⟨d4, hd4⟩ : ∃ s, s = takD l := ⟨_, rfl⟩
  have hd4l : d4.length < 2305843009213693952 := by rw [hd4]; exact Nat.lt_of_le_of_lt (takD_le hok) (by decide)
  obtain ⟨ak, hak⟩ : ∃ s, s = sig l (-1) [] := ⟨_, rfl⟩
  have hakd : ak.data.length < 2305843009213693952 := by rw [hak]; show 0 < 2305843009213693952; decide
  have hpd0 := pktP_le hok x.z.i
  obtain ⟨pk, hpk⟩ : ∃ s, s = pktP l x.z.i := ⟨_, rfl⟩
  rw [← hpk] at hpd0
  have hpkd : pk.data.length < 2305843009213693952 := by omega
  rw [← hs1] at ok1
  rw [← hs2] at ok2
  rw [← hs3] at ok3
  rw [← hs4] at ok4
  cbv
  refine ⟨⟨x.k, x.z.p⟩, ⟨by ((repeat' first | exact LeL.nil | exact Le.refl _ | refine LeL.cons ?_ ?_ | exact Le.ic rfl | exact Le.bc rfl | exact Le.i rfl | exact Le.b rfl | exact Le.sl rfl | exact Le.nils rfl (fun _ => ⟨trivial, trivial⟩) | refine Le.lst rfl (fun _ _ => rfl) (fun _ => ⟨trivial, trivial⟩) ?_ | refine Le.lst rfl (fun _ _ => rfl) (fun _ => ⟨fun _ => ⟨trivial, trivial⟩, trivial⟩) ?_ | exact Le.nils rfl (fun _ => ⟨fun _ => ⟨trivial, trivial⟩, trivial⟩) | refine Le.agg ?_ | refine Le.tup ?_ | exact Le.any _)), hpd⟩, ?_⟩
  cbv
  refine ⟨l, ⟨by rw [hl]; ((repeat' first | exact LeL.nil | exact Le.refl _ | refine LeL.cons ?_ ?_ | exact Le.ic rfl | exact Le.bc rfl | exact Le.i rfl | exact Le.b rfl | exact Le.sl rfl | exact Le.nils rfl (fun _ => ⟨trivial, trivial⟩) | refine Le.lst rfl (fun _ _ => rfl) (fun _ => ⟨trivial, trivial⟩) ?_ | refine Le.lst rfl (fun _ _ => rfl) (fun _ => ⟨fun _ => ⟨trivial, trivial⟩, trivial⟩) ?_ | exact Le.nils rfl (fun _ => ⟨fun _ => ⟨trivial, trivial⟩, trivial⟩) | refine Le.agg ?_ | refine Le.tup ?_ | exact Le.any _)), hsm⟩, ?_⟩
  cbv
  refine ⟨l, ⟨by rw [hl]; ((repeat' first | exact LeL.nil | exact Le.refl _ | refine LeL.cons ?_ ?_ | exact Le.ic rfl | exact Le.bc rfl | exact Le.i rfl | exact Le.b rfl | exact Le.sl rfl | exact Le.nils rfl (fun _ => ⟨trivial, trivial⟩) | refine Le.lst rfl (fun _ _ => rfl) (fun _ => ⟨trivial, trivial⟩) ?_ | refine Le.lst rfl (fun _ _ => rfl) (fun _ => ⟨fun _ => ⟨trivial, trivial⟩, trivial⟩) ?_ | exact Le.nils rfl (fun _ => ⟨fun _ => ⟨trivial, trivial⟩, trivial⟩) | refine Le.agg ?_ | refine Le.tup ?_ | exact Le.any _)), hsm⟩, ?_⟩
  cbv
  refine ⟨⟨l, x.z.i⟩, ⟨by rw [hl]; ((repeat' first | exact LeL.nil | exact Le.refl _ | refine LeL.cons ?_ ?_ | exact Le.ic rfl | exact Le.bc rfl | exact Le.i rfl | exact Le.b rfl | exact Le.sl rfl | exact Le.nils rfl (fun _ => ⟨trivial, trivial⟩) | refine Le.lst rfl (fun _ _ => rfl) (fun _ => ⟨trivial, trivial⟩) ?_ | refine Le.lst rfl (fun _ _ => rfl) (fun _ => ⟨fun _ => ⟨trivial, trivial⟩, trivial⟩) ?_ | exact Le.nils rfl (fun _ => ⟨fun _ => ⟨trivial, trivial⟩, trivial⟩) | refine Le.agg ?_ | refine Le.tup ?_ | exact Le.any _)), hso⟩, ?_⟩
  cbv
  refine ⟨⟨l, x.z.i⟩, ⟨by rw [hl]; ((repeat' first | exact LeL.nil | exact Le.refl _ | refine LeL.cons ?_ ?_ | exact Le.ic rfl | exact Le.bc rfl | exact Le.i rfl | exact Le.b rfl | exact Le.sl rfl | exact Le.nils rfl (fun _ => ⟨trivial, trivial⟩) | refine Le.lst rfl (fun _ _ => rfl) (fun _ => ⟨trivial, trivial⟩) ?_ | refine Le.lst rfl (fun _ _ => rfl) (fun _ => ⟨fun _ => ⟨trivial, trivial⟩, trivial⟩) ?_ | exact Le.nils rfl (fun _ => ⟨fun _ => ⟨trivial, trivial⟩, trivial⟩) | refine Le.agg ?_ | refine Le.tup ?_ | exact Le.any _)), hso⟩, ?_⟩
  cbv
  refine ⟨⟨l, x.z.d⟩, ⟨by rw [hl]; ((repeat' first | exact LeL.nil | exact Le.refl _ | refine LeL.cons ?_ ?_ | exact Le.ic rfl | exact Le.bc rfl | exact Le.i rfl | exact Le.b rfl | exact Le.sl rfl | exact Le.nils rfl (fun _ => ⟨trivial, trivial⟩) | refine Le.lst rfl (fun _ _ => rfl) (fun _ => ⟨trivial, trivial⟩) ?_ | refine Le.lst rfl (fun _ _ => rfl) (fun _ => ⟨fun _ => ⟨trivial, trivial⟩, trivial⟩) ?_ | exact Le.nils rfl (fun _ => ⟨fun _ => ⟨trivial, trivial⟩, trivial⟩) | refine Le.agg ?_ | refine Le.tup ?_ | exact Le.any _)), hso, hsi, hdd⟩, ?_⟩
  cbv
  refine ⟨⟨l, x.z.d⟩, ⟨by rw [hl]; ((repeat' first | exact LeL.nil | exact Le.refl _ | refine LeL.cons ?_ ?_ | exact Le.ic rfl | exact Le.bc rfl | exact Le.i rfl | exact Le.b rfl | exact Le.sl rfl | exact Le.nils rfl (fun _ => ⟨trivial, trivial⟩) | refine Le.lst rfl (fun _ _ => rfl) (fun _ => ⟨trivial, trivial⟩) ?_ | refine Le.lst rfl (fun _ _ => rfl) (fun _ => ⟨fun _ => ⟨trivial, trivial⟩, trivial⟩) ?_ | exact Le.nils rfl (fun _ => ⟨fun _ => ⟨trivial, trivial⟩, trivial⟩) | refine Le.agg ?_ | refine Le.tup ?_ | exact Le.any _)), hso, hsi, hdd⟩, ?_⟩
  cbv
  refine ⟨⟨s1, e1, s1, e1⟩, ⟨by dsimp only; rw [sr.1, sr.2, ← hs1, ← he1]; ((repeat' first | exact LeL.nil | exact Le.refl _ | refine LeL.cons ?_ ?_ | exact Le.ic rfl | exact Le.bc rfl | exact Le.i rfl | exact Le.b rfl | exact Le.sl rfl | exact Le.nils rfl (fun _ => ⟨trivial, trivial⟩) | refine Le.lst rfl (fun _ _ => rfl) (fun _ => ⟨trivial, trivial⟩) ?_ | refine Le.lst rfl (fun _ _ => rfl) (fun _ => ⟨fun _ => ⟨trivial, trivial⟩, trivial⟩) ?_ | exact Le.nils rfl (fun _ => ⟨fun _ => ⟨trivial, trivial⟩, trivial⟩) | refine Le.agg ?_ | refine Le.tup ?_ | exact Le.any _)), ok1.1.bs, ok1.2.bs⟩, ?_⟩
  cbv
  refine ⟨fun h6 => ?_, fun _ => ?_⟩
  · have h6 := h6.out
    have h6 : (!(eqB e1 e1 && s1.same s1)) = true := h6
    rw [Lk.same_refl] at h6; simp [eqB] at h6
  cbv
  refine ⟨⟨l, x.z.p⟩, ⟨by rw [hl]; ((repeat' first | exact LeL.nil | exact Le.refl _ | refine LeL.cons ?_ ?_ | exact Le.ic rfl | exact Le.bc rfl | exact Le.i rfl | exact Le.b rfl | exact Le.sl rfl | exact Le.nils rfl (fun _ => ⟨trivial, trivial⟩) | refine Le.lst rfl (fun _ _ => rfl) (fun _ => ⟨trivial, trivial⟩) ?_ | refine Le.lst rfl (fun _ _ => rfl) (fun _ => ⟨fun _ => ⟨trivial, trivial⟩, trivial⟩) ?_ | exact Le.nils rfl (fun _ => ⟨fun _ => ⟨trivial, trivial⟩, trivial⟩) | refine Le.agg ?_ | refine Le.tup ?_ | exact Le.any _)), okP⟩, ?_⟩
  cbv
  refine ⟨⟨l, x.z.p⟩, ⟨by rw [hl]; ((repeat' first | exact LeL.nil | exact Le.refl _ | refine LeL.cons ?_ ?_ | exact Le.ic rfl | exact Le.bc rfl | exact Le.i rfl | exact Le.b rfl | exact Le.sl rfl | exact Le.nils rfl (fun _ => ⟨trivial, trivial⟩) | refine Le.lst rfl (fun _ _ => rfl) (fun _ => ⟨trivial, trivial⟩) ?_ | refine Le.lst rfl (fun _ _ => rfl) (fun _ => ⟨fun _ => ⟨trivial, trivial⟩, trivial⟩) ?_ | exact Le.nils rfl (fun _ => ⟨fun _ => ⟨trivial, trivial⟩, trivial⟩) | refine Le.agg ?_ | refine Le.tup ?_ | exact Le.any _)), okP⟩, ?_⟩
  cbv
  refine ⟨⟨s2, e2, s2, e2⟩, ⟨by dsimp only; rw [← hs2, ← he2]; ((repeat' first | exact LeL.nil | exact Le.refl _ | refine LeL.cons ?_ ?_ | exact Le.ic rfl | exact Le.bc rfl | exact Le.i rfl | exact Le.b rfl | exact Le.sl rfl | exact Le.nils rfl (fun _ => ⟨trivial, trivial⟩) | refine Le.lst rfl (fun _ _ => rfl) (fun _ => ⟨trivial, trivial⟩) ?_ | refine Le.lst rfl (fun _ _ => rfl) (fun _ => ⟨fun _ => ⟨trivial, trivial⟩, trivial⟩) ?_ | exact Le.nils rfl (fun _ => ⟨fun _ => ⟨trivial, trivial⟩, trivial⟩) | refine Le.agg ?_ | refine Le.tup ?_ | exact Le.any _)), ok2.1.bs, ok2.2.bs⟩, ?_⟩
  cbv
  refine ⟨fun h6 => ?_, fun _ => ?_⟩
  · have h6 := h6.out
    have h6 : (!(eqB e2 e2 && s2.same s2)) = true := h6
    rw [Lk.same_refl] at h6; simp [eqB] at h6
  cbv
  refine ⟨⟨l, rp⟩, ⟨by rw [hl, hrp, hck]; ((repeat' first | exact LeL.nil | exact Le.refl _ | refine LeL.cons ?_ ?_ | exact Le.ic rfl | exact Le.bc rfl | exact Le.i rfl | exact Le.b rfl | exact Le.sl rfl | exact Le.nils rfl (fun _ => ⟨trivial, trivial⟩) | refine Le.lst rfl (fun _ _ => rfl) (fun _ => ⟨trivial, trivial⟩) ?_ | refine Le.lst rfl (fun _ _ => rfl) (fun _ => ⟨fun _ => ⟨trivial, trivial⟩, trivial⟩) ?_ | exact Le.nils rfl (fun _ => ⟨fun _ => ⟨trivial, trivial⟩, trivial⟩) | refine Le.agg ?_ | refine Le.tup ?_ | exact Le.any _)), okR⟩, ?_⟩
  cbv
  refine ⟨⟨l, rp⟩, ⟨by rw [hl, hrp, hck]; ((repeat' first | exact LeL.nil | exact Le.refl _ | refine LeL.cons ?_ ?_ | exact Le.ic rfl | exact Le.bc rfl | exact Le.i rfl | exact Le.b rfl | exact Le.sl rfl | exact Le.nils rfl (fun _ => ⟨trivial, trivial⟩) | refine Le.lst rfl (fun _ _ => rfl) (fun _ => ⟨trivial, trivial⟩) ?_ | refine Le.lst rfl (fun _ _ => rfl) (fun _ => ⟨fun _ => ⟨trivial, trivial⟩, trivial⟩) ?_ | exact Le.nils rfl (fun _ => ⟨fun _ => ⟨trivial, trivial⟩, trivial⟩) | refine Le.agg ?_ | refine Le.tup ?_ | exact Le.any _)), okR⟩, ?_⟩
  cbv
  refine ⟨⟨s3, e3, s3, e3⟩, ⟨by dsimp only; rw [← hs3, ← he3]; ((repeat' first | exact LeL.nil | exact Le.refl _ | refine LeL.cons ?_ ?_ | exact Le.ic rfl | exact Le.bc rfl | exact Le.i rfl | exact Le.b rfl | exact Le.sl rfl | exact Le.nils rfl (fun _ => ⟨trivial, trivial⟩) | refine Le.lst rfl (fun _ _ => rfl) (fun _ => ⟨trivial, trivial⟩) ?_ | refine Le.lst rfl (fun _ _ => rfl) (fun _ => ⟨fun _ => ⟨trivial, trivial⟩, trivial⟩) ?_ | exact Le.nils rfl (fun _ => ⟨fun _ => ⟨trivial, trivial⟩, trivial⟩) | refine Le.agg ?_ | refine Le.tup ?_ | exact Le.any _)), ok3.1.bs, ok3.2.bs⟩, ?_⟩
  cbv
  refine ⟨fun h6 => ?_, fun _ => ?_⟩
  · have h6 := h6.out
    have h6 : (!(eqB e3 e3 && s3.same s3)) = true := h6
    rw [Lk.same_refl] at h6; simp [eqB] at h6
  cbv
  refine ⟨fun h6 => ?_, fun _ => ?_⟩
  · have h6 := h6.out
    simp [eqB] at h6
  cbv
  refine ⟨⟨s4, s4⟩, ⟨by rw [hs4]; ((repeat' first | exact LeL.nil | exact Le.refl _ | refine LeL.cons ?_ ?_ | exact Le.ic rfl | exact Le.bc rfl | exact Le.i rfl | exact Le.b rfl | exact Le.sl rfl | exact Le.nils rfl (fun _ => ⟨trivial, trivial⟩) | refine Le.lst rfl (fun _ _ => rfl) (fun _ => ⟨trivial, trivial⟩) ?_ | refine Le.lst rfl (fun _ _ => rfl) (fun _ => ⟨fun _ => ⟨trivial, trivial⟩, trivial⟩) ?_ | exact Le.nils rfl (fun _ => ⟨fun _ => ⟨trivial, trivial⟩, trivial⟩) | refine Le.agg ?_ | refine Le.tup ?_ | exact Le.any _)), ok4.1.bs, ok4.2.bs⟩, ?_⟩
  cbv
  refine ⟨fun h6 => ?_, fun _ => ?_⟩
  · have h6 := h6.out
    have h6 : (!(s4.same s4)) = true := h6
    rw [Lk.same_refl] at h6; cases h6
  cbv
  refine ⟨⟨d4, d4⟩, ⟨by rw [hd4]; ((repeat' first | exact LeL.nil | exact Le.refl _ | refine LeL.cons ?_ ?_ | exact Le.ic rfl | exact Le.bc rfl | exact Le.i rfl | exact Le.b rfl | exact Le.sl rfl | exact Le.nils rfl (fun _ => ⟨trivial, trivial⟩) | refine Le.lst rfl (fun _ _ => rfl) (fun _ => ⟨trivial, trivial⟩) ?_ | refine Le.lst rfl (fun _ _ => rfl) (fun _ => ⟨fun _ => ⟨trivial, trivial⟩, trivial⟩) ?_ | exact Le.nils rfl (fun _ => ⟨fun _ => ⟨trivial, trivial⟩, trivial⟩) | refine Le.agg ?_ | refine Le.tup ?_ | exact Le.any _)), hd4l⟩, ?_⟩
  cbv
  refine ⟨fun h6 => ?_, fun _ => ?_⟩
  · have h6 := h6.out
    have h6 : (!(d4 == d4)) = true := h6
    simp at h6
  cbv
  refine ⟨fun _ => ?_, fun h6 => ?_⟩
  rotate_left
  · have h6 := h6.out
    simp [eqB] at h6
  cbv
  refine ⟨⟨pk, pk⟩, ⟨by rw [hpk]; ((repeat' first | exact LeL.nil | exact Le.refl _ | refine LeL.cons ?_ ?_ | exact Le.ic rfl | exact Le.bc rfl | exact Le.i rfl | exact Le.b rfl | exact Le.sl rfl | exact Le.nils rfl (fun _ => ⟨trivial, trivial⟩) | refine Le.lst rfl (fun _ _ => rfl) (fun _ => ⟨trivial, trivial⟩) ?_ | refine Le.lst rfl (fun _ _ => rfl) (fun _ => ⟨fun _ => ⟨trivial, trivial⟩, trivial⟩) ?_ | exact Le.nils rfl (fun _ => ⟨fun _ => ⟨trivial, trivial⟩, trivial⟩) | refine Le.agg ?_ | refine Le.tup ?_ | exact Le.any _)), hpkd⟩, ?_⟩
  cbv
  refine ⟨fun _ => ?_, fun h6 => ?_⟩
  rotate_left
  · have h6 := h6.out
    have h6 : (pk.same pk) = false := h6
    rw [Pk.same_refl] at h6; cases h6
  cbv
  refine ⟨l, ⟨by rw [hl]; ((repeat' first | exact LeL.nil | exact Le.refl _ | refine LeL.cons ?_ ?_ | exact Le.ic rfl | exact Le.bc rfl | exact Le.i rfl | exact Le.b rfl | exact Le.sl rfl | exact Le.nils rfl (fun _ => ⟨trivial, trivial⟩) | refine Le.lst rfl (fun _ _ => rfl) (fun _ => ⟨trivial, trivial⟩) ?_ | refine Le.lst rfl (fun _ _ => rfl) (fun _ => ⟨fun _ => ⟨trivial, trivial⟩, trivial⟩) ?_ | exact Le.nils rfl (fun _ => ⟨fun _ => ⟨trivial, trivial⟩, trivial⟩) | refine Le.agg ?_ | refine Le.tup ?_ | exact Le.any _)), trivial⟩, ?_⟩
  cbv
  refine ⟨l, ⟨by rw [hl]; ((repeat' first | exact LeL.nil | exact Le.refl _ | refine LeL.cons ?_ ?_ | exact Le.ic rfl | exact Le.bc rfl | exact Le.i rfl | exact Le.b rfl | exact Le.sl rfl | exact Le.nils rfl (fun _ => ⟨trivial, trivial⟩) | refine Le.lst rfl (fun _ _ => rfl) (fun _ => ⟨trivial, trivial⟩) ?_ | refine Le.lst rfl (fun _ _ => rfl) (fun _ => ⟨fun _ => ⟨trivial, trivial⟩, trivial⟩) ?_ | exact Le.nils rfl (fun _ => ⟨fun _ => ⟨trivial, trivial⟩, trivial⟩) | refine Le.agg ?_ | refine Le.tup ?_ | exact Le.any _)), trivial⟩, ?_⟩
  cbv
  refine ⟨⟨ak, ak⟩, ⟨by rw [hak]; ((repeat' first | exact LeL.nil | exact Le.refl _ | refine LeL.cons ?_ ?_ | exact Le.ic rfl | exact Le.bc rfl | exact Le.i rfl | exact Le.b rfl | exact Le.sl rfl | exact Le.nils rfl (fun _ => ⟨trivial, trivial⟩) | refine Le.lst rfl (fun _ _ => rfl) (fun _ => ⟨trivial, trivial⟩) ?_ | refine Le.lst rfl (fun _ _ => rfl) (fun _ => ⟨fun _ => ⟨trivial, trivial⟩, trivial⟩) ?_ | exact Le.nils rfl (fun _ => ⟨fun _ => ⟨trivial, trivial⟩, trivial⟩) | refine Le.agg ?_ | refine Le.tup ?_ | exact Le.any _)), hakd⟩, ?_⟩
  cbv
  refine ⟨fun _ => ?_, fun h6 => ?_⟩
  rotate_left
  · have h6 := h6.out
    have h6 : (ak.same ak) = false := h6
    rw [Pk.same_refl] at h6; cases h6
  cbv
  exact ⟨.refl _⟩
end Go.Proofs.Tran
