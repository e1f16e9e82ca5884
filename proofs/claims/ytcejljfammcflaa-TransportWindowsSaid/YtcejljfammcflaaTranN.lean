/-
  What a receipt does: the walk.
-/
import Derived.Test.YtcejljfammcflaaTranM
set_option linter.unusedVariables false
set_option linter.unusedSimpArgs false
set_option maxRecDepth 10000
set_option maxHeartbeats 1000000
namespace Go.Proofs.Tran
open Go Go.Vc

def pre (a b : List (List Int)) : Bool := decide (a.length ≤ b.length) && (a == b.take a.length)
def prefS : Vc.Spec where
  α := BB
  args x := [.sl 1 cB (fun _ => x.a), .sl 1 cB (fun _ => x.b)]
  pre x := Bs x.a
  res x := .b (fun _ => pre x.a x.b)
theorem prefix_ok : SpecOk (PP ()) 35 prefS := by
  refine spec_of_vc (lv := 2) ctx17_ok ctx17_inl (fnOk_of Try.func35 (by kernel_rfl)) (by kernel_rfl) (fun a => ⟨fun y => (cB_ok y).1, fun y => (cB_ok y).1, trivial⟩) (fun a => trivial) ?_
  intro x hx
  have hx : Bs x.a := hx
  refine ⟨?_⟩
  cbv
  refine ⟨fun h => ?_, fun h => ?_⟩
  · have h : leB (x.a.length : Int) (x.b.length : Int) = true := h.out
    have hle : x.a.length ≤ x.b.length := by simp [leB] at h; omega
    obtain ⟨t, ht⟩ : ∃ t, t = x.b.take x.a.length := ⟨_, rfl⟩
    have hpre : pre x.a x.b = (x.a == t) := by simp [pre, hle, ht]
    cbv
    refine ⟨⟨by show (0 : Int) ≤ 0 ∧ (0 : Int) ≤ (x.a.length : Int) ∧ (x.a.length : Int) ≤ (x.b.length : Int); omega⟩, ?_⟩
    cbv
    refine ⟨⟨x.a, t⟩, ⟨by ((repeat' first | exact LeL.nil | exact Le.refl _ | refine LeL.cons ?_ ?_ | exact Le.ic rfl | exact Le.bc rfl | exact Le.i rfl | exact Le.b rfl | exact Le.sl rfl | exact Le.nils rfl (fun _ => ⟨trivial, trivial⟩) | refine Le.lst rfl (fun _ _ => rfl) (fun _ => ⟨trivial, trivial⟩) ?_ | refine Le.lst rfl (fun _ _ => rfl) (fun _ => ⟨fun _ => ⟨trivial, trivial⟩, trivial⟩) ?_ | exact Le.nils rfl (fun _ => ⟨fun _ => ⟨trivial, trivial⟩, trivial⟩) | refine Le.agg ?_ | refine Le.tup ?_ | exact Le.any _)); exact .sl (by rw [ht]; simp), hx⟩, ?_⟩
    cbv
    exact ⟨.b hpre.symm⟩
  · have h : leB (x.a.length : Int) (x.b.length : Int) = false := h.out
    have hle : ¬ x.a.length ≤ x.b.length := by simp [leB] at h; omega
    cbv
    exact ⟨.bc (by simp [pre, hle])⟩
theorem pre_append (a b : List (List Int)) : pre a (a ++ b) = true := by simp [pre]

/-- What a receipt that is not refused does. -/
structure Did (l r : Lk) (p : Pk) : Prop where
  k : r.key = l.key
  b : l.base ≤ r.base
  m : r.base = l.base ∨ r.base = p.ack
  n : (r.base - l.base).toNat ≤ l.out.length
  o : r.out = l.out.drop (r.base - l.base).toNat
  g : (r.got = l.got ∧ r.ins = l.ins) ∨ (r.got = l.got + 1 ∧ r.ins = l.ins ++ [p.data] ∧ p.seq = l.got)
theorem recv_did {l : Lk} {p : Pk} (h : AccOk l p) : Did l (recv l p) p := by
  have hA : Did l (recA l p) ⟨p.seq, p.ack, p.data, p.check⟩ := by
    have hg := recA_got l p
    unfold recA at *
    split
    · rename_i hlt
      have := h.o
      rw [if_pos hlt] at hg
      exact ⟨rfl, by simp only; omega, .inr rfl, by simp only; omega, rfl, .inl ⟨rfl, rfl⟩⟩
    · exact ⟨rfl, Int.le_refl _, .inl rfl, by simp, by simp, .inl ⟨rfl, rfl⟩⟩
  have hg := recA_got l p
  unfold recv recB
  split
  · rename_i hc
    rw [hg.1] at hc
    exact ⟨hA.k, hA.b, hA.m, hA.n, hA.o, .inr ⟨by simp only [hg.1], by simp only [hg.2], hc.1⟩⟩
  · exact hA

structure KBP where
  k : Int
  b : List Int
  p : Pk
def monS : Vc.Spec where
  α := KBP
  args y := [.i .u64 (fun _ => y.k), .sl 1 cU8 (fun _ => y.b), .agg (Pk.cells fun _ => y.p)]
  pre y := (∀ v ∈ y.b, 0 ≤ v ∧ v < 256) ∧ y.p.ack ≤ 9223372036854775807
  res y := .bc true
noncomputable def sp18 : List (Nat × Vc.Spec) := (35, prefS) :: sp17
theorem sp18_ok : All (fun f S => SpecOk (PP ()) f S) sp18 := ⟨prefix_ok, sp17_ok⟩
noncomputable def ctx18 : Ctx := { tt := tt, el := el, sp := fun f => tab sp18 f, inl := fun f => tab inl3 f }
theorem ctx18_ok : ctx18.Ok (PP ()) := ⟨tt_ok, el_ok ctx18 rfl, tab_all sp18_ok, fun f fn h => (tab_all inl3_ok f fn h).1, mixed⟩
theorem ctx18_inl : InlOk ctx18 := fun f fn h => (tab_all inl3_ok f fn h).2
theorem Mon_ok : SpecOk (PP ()) 8 monS := by
  refine spec_of_vc (lv := 2) ctx18_ok ctx18_inl (fnOk_of Try.func8 (by kernel_rfl)) (by kernel_rfl) (fun a => ⟨trivial, fun y => (cU8_ok y).1, Pk.lf fun _ => a.p, trivial⟩) (fun a => trivial) ?_
  intro x hx
  have hx : (∀ v ∈ x.b, 0 ≤ v ∧ v < 256) ∧ x.p.ack ≤ 9223372036854775807 := hx
  have hb := hx.1
  have hack := hx.2
  have hok := lkF_ok x.k hb
  obtain ⟨l, hl⟩ : ∃ l, l = lkF x.k x.b := ⟨_, rfl⟩
  rw [← hl] at hok
  have hsm := hok.sm
  obtain ⟨ck, hck⟩ : ∃ c, c = x.p.tag x.k := ⟨_, rfl⟩
  obtain ⟨rp, hrp⟩ : ∃ r : Pk, r = ⟨x.p.seq, x.p.ack, x.p.data, ck⟩ := ⟨_, rfl⟩
  refine ⟨?_⟩
  cbv
  refine ⟨(), ⟨by ((repeat' first | exact LeL.nil | exact Le.refl _ | refine LeL.cons ?_ ?_ | exact Le.ic rfl | exact Le.bc rfl | exact Le.i rfl | exact Le.b rfl | exact Le.sl rfl | exact Le.nils rfl (fun _ => ⟨trivial, trivial⟩) | refine Le.lst rfl (fun _ _ => rfl) (fun _ => ⟨trivial, trivial⟩) ?_ | refine Le.lst rfl (fun _ _ => rfl) (fun _ => ⟨fun _ => ⟨trivial, trivial⟩, trivial⟩) ?_ | exact Le.nils rfl (fun _ => ⟨fun _ => ⟨trivial, trivial⟩, trivial⟩) | refine Le.agg ?_ | refine Le.tup ?_ | exact Le.any _)), trivial⟩, ?_⟩
  cbv
  refine ⟨fun h => ?_, fun h => ?_⟩
  · cbv
    exact ⟨.refl _⟩
  have h : ltB 300 (x.p.data.length : Int) = false := h.out
  have hd : x.p.data.length ≤ 300 := by simp [ltB] at h; omega
  have hpd : x.p.data.length ≤ 1000000 := by omega
  have okR : LP.Ok ⟨l, rp⟩ := hok.lp (by rw [hrp]; exact hpd) (by rw [hrp]; exact hack)
  cbv
  refine ⟨⟨x.k, x.b⟩, ⟨by ((repeat' first | exact LeL.nil | exact Le.refl _ | refine LeL.cons ?_ ?_ | exact Le.ic rfl | exact Le.bc rfl | exact Le.i rfl | exact Le.b rfl | exact Le.sl rfl | exact Le.nils rfl (fun _ => ⟨trivial, trivial⟩) | refine Le.lst rfl (fun _ _ => rfl) (fun _ => ⟨trivial, trivial⟩) ?_ | refine Le.lst rfl (fun _ _ => rfl) (fun _ => ⟨fun _ => ⟨trivial, trivial⟩, trivial⟩) ?_ | exact Le.nils rfl (fun _ => ⟨fun _ => ⟨trivial, trivial⟩, trivial⟩) | refine Le.agg ?_ | refine Le.tup ?_ | exact Le.any _)), trivial, hb⟩, ?_⟩
  cbv
  refine ⟨⟨x.k, x.p⟩, ⟨by ((repeat' first | exact LeL.nil | exact Le.refl _ | refine LeL.cons ?_ ?_ | exact Le.ic rfl | exact Le.bc rfl | exact Le.i rfl | exact Le.b rfl | exact Le.sl rfl | exact Le.nils rfl (fun _ => ⟨trivial, trivial⟩) | refine Le.lst rfl (fun _ _ => rfl) (fun _ => ⟨trivial, trivial⟩) ?_ | refine Le.lst rfl (fun _ _ => rfl) (fun _ => ⟨fun _ => ⟨trivial, trivial⟩, trivial⟩) ?_ | exact Le.nils rfl (fun _ => ⟨fun _ => ⟨trivial, trivial⟩, trivial⟩) | refine Le.agg ?_ | refine Le.tup ?_ | exact Le.any _)), hpd⟩, ?_⟩
  cbv
  refine ⟨⟨l, rp⟩, ⟨by rw [hl, hrp, hck]; ((repeat' first | exact LeL.nil | exact Le.refl _ | refine LeL.cons ?_ ?_ | exact Le.ic rfl | exact Le.bc rfl | exact Le.i rfl | exact Le.b rfl | exact Le.sl rfl | exact Le.nils rfl (fun _ => ⟨trivial, trivial⟩) | refine Le.lst rfl (fun _ _ => rfl) (fun _ => ⟨trivial, trivial⟩) ?_ | refine Le.lst rfl (fun _ _ => rfl) (fun _ => ⟨fun _ => ⟨trivial, trivial⟩, trivial⟩) ?_ | exact Le.nils rfl (fun _ => ⟨fun _ => ⟨trivial, trivial⟩, trivial⟩) | refine Le.agg ?_ | refine Le.tup ?_ | exact Le.any _)), okR⟩, ?_⟩
  cbv
  refine ⟨fun h => ?_, fun h => ?_⟩
  · have h : (!eqB (recE l rp) 0) = true := h.out
    have hno : accB l rp = false := by
      cases e : accB l rp with
      | false => rfl
      | true => rw [(rec_good e).2] at h; simp [eqB] at h
    have e1 := (rec_bad hno).1
    have e2 := (rec_bad hno).2
    cbv
    refine ⟨fun _ => ?_, fun h6 => ?_⟩
    rotate_left
    · have h6 := h6.out
      have h6 : eqB (recE l rp) 500 = false := h6
      rw [e2] at h6; simp [eqB] at h6
    cbv
    refine ⟨⟨Lk0, Lk0⟩, ⟨by dsimp only; rw [e1]; ((repeat' first | exact LeL.nil | exact Le.refl _ | refine LeL.cons ?_ ?_ | exact Le.ic rfl | exact Le.bc rfl | exact Le.i rfl | exact Le.b rfl | exact Le.sl rfl | exact Le.nils rfl (fun _ => ⟨trivial, trivial⟩) | refine Le.lst rfl (fun _ _ => rfl) (fun _ => ⟨trivial, trivial⟩) ?_ | refine Le.lst rfl (fun _ _ => rfl) (fun _ => ⟨fun _ => ⟨trivial, trivial⟩, trivial⟩) ?_ | exact Le.nils rfl (fun _ => ⟨fun _ => ⟨trivial, trivial⟩, trivial⟩) | refine Le.agg ?_ | refine Le.tup ?_ | exact Le.any _)), Sm_nil.bs, Sm_nil.bs⟩, ?_⟩
    cbv
    refine ⟨fun _ => ?_, fun h6 => ?_⟩
    rotate_left
    · have h6 := h6.out
      have h6 : Lk0.same Lk0 = false := h6
      rw [Lk.same_refl] at h6; cases h6
    cbv
    exact ⟨.refl _⟩
  have h : (!eqB (recE l rp) 0) = false := h.out
  have hyes : accB l rp = true := by
    cases e : accB l rp with
    | true => rfl
    | false => rw [(rec_bad e).2] at h; simp [eqB] at h
  cbv
  have hD := recv_did (accB_ok hyes)
  have hr := (rec_good hyes).1
  have hrok := recL_ok hok rp
  have hin := hok.i
  have hb0 := hok.b
  have hb1 := hok.b1
  have hg0 := hok.g
  have hg1 := hok.g1
  obtain ⟨r, hrr⟩ : ∃ r, r = recL l rp := ⟨_, rfl⟩
  rw [← hr, ← hrr] at hD
  rw [← hrr] at hrok
  have hrsm := hrok.sm
  have hrb := hD.b
  have hrn := hD.n
  have hrb1 := hrok.b1
  have hrg1 := hrok.g1
  have hrk := hD.k
  have hwb : IntKind.i64.wrap (r.base - l.base) = r.base - l.base := w64 (by omega) (by omega)
  have hwg : IntKind.i64.wrap (r.got - l.got) = r.got - l.got := w64 (by have := hrok.g; omega) (by omega)
  obtain ⟨nn, hnn⟩ : ∃ nn, nn = r.base - l.base := ⟨_, rfl⟩
  obtain ⟨mm, hmm⟩ : ∃ mm, mm = r.got - l.got := ⟨_, rfl⟩
  rw [← hnn] at hwb
  rw [← hmm] at hwg
  have hm01 : mm = 0 ∨ mm = 1 := by rcases hD.g with e | e <;> omega
  have hn0 : 0 ≤ nn := by omega
  have hn1 : nn ≤ (l.out.length : Int) := by omega
  have hout : r.out = l.out.drop nn.toNat := by rw [hnn]; exact hD.o
  have hins : (r.ins.length : Int) = IntKind.i64.wrap ((l.ins.length : Int) + mm) := by
    rw [w64 (by omega) (by omega)]
    rcases hD.g with e | e
    · rw [e.2]; omega
    · rw [e.2.1]; simp only [List.length_append, List.length_cons, List.length_nil]; omega
  have hpre : pre l.ins r.ins = true := by
    rcases hD.g with e | e
    · rw [e.2]; simp [pre]
    · rw [e.2.1]; exact pre_append _ _
  have hval := (valid_iff r).2 hrok
  refine ⟨fun h6 => ?_, fun _ => ?_⟩
  · have h6 := h6.out
    have h6 : ltB (IntKind.i64.wrap ((recL l rp).base - (lkF x.k x.b).base)) 0 = true := h6
    rw [← hrr, ← hl, ← hnn, hwb] at h6
    exfalso; simp [ltB] at h6; omega
  cbv
  refine ⟨fun h6 => ?_, fun _ => ?_⟩
  · have h6 := h6.out
    have h6 : ltB ((lkF x.k x.b).out.length : Int) (IntKind.i64.wrap ((recL l rp).base - (lkF x.k x.b).base)) = true := h6
    rw [← hrr, ← hl, ← hnn, hwb] at h6
    exfalso; simp [ltB] at h6; ((try simp only [Go.Vc.natc] at *); omega)
  cbv
  refine ⟨fun h6 => ?_, fun _ => ?_⟩
  · have h6 := h6.out
    have h6 : ltB (IntKind.i64.wrap ((recL l rp).got - (lkF x.k x.b).got)) 0 = true := h6
    rw [← hrr, ← hl, ← hmm, hwg] at h6
    exfalso; simp [ltB] at h6; omega
  cbv
  refine ⟨fun h6 => ?_, fun _ => ?_⟩
  · have h6 := h6.out
    have h6 : ltB 1 (IntKind.i64.wrap ((recL l rp).got - (lkF x.k x.b).got)) = true := h6
    rw [← hrr, ← hl, ← hmm, hwg] at h6
    exfalso; simp [ltB] at h6; omega
  cbv
  refine ⟨fun h6 => ?_, fun _ => ?_⟩
  · have h6 := h6.out
    have h6 : (!eqB (recL l rp).key (lkF x.k x.b).key) = true := h6
    rw [← hrr, ← hl, hrk] at h6
    simp [eqB] at h6
  cbv
  refine ⟨⟨by
    show 0 ≤ IntKind.i64.wrap ((recL l rp).base - (lkF x.k x.b).base) ∧ IntKind.i64.wrap ((recL l rp).base - (lkF x.k x.b).base) ≤ ((lkF x.k x.b).out.length : Int) ∧ ((lkF x.k x.b).out.length : Int) ≤ ((lkF x.k x.b).out.length : Int)
    rw [← hrr, ← hl, ← hnn, hwb]
    exact ⟨hn0, hn1, Int.le_refl _⟩⟩, ?_⟩
  cbv
  refine ⟨⟨r.out, r.out⟩, ⟨by dsimp only; rw [← hrr, ← hl, ← hnn, hwb]; ((repeat' first | exact LeL.nil | exact Le.refl _ | refine LeL.cons ?_ ?_ | exact Le.ic rfl | exact Le.bc rfl | exact Le.i rfl | exact Le.b rfl | exact Le.sl rfl | exact Le.nils rfl (fun _ => ⟨trivial, trivial⟩) | refine Le.lst rfl (fun _ _ => rfl) (fun _ => ⟨trivial, trivial⟩) ?_ | refine Le.lst rfl (fun _ _ => rfl) (fun _ => ⟨fun _ => ⟨trivial, trivial⟩, trivial⟩) ?_ | exact Le.nils rfl (fun _ => ⟨fun _ => ⟨trivial, trivial⟩, trivial⟩) | refine Le.agg ?_ | refine Le.tup ?_ | exact Le.any _)); exact .sl (by rw [hout]; simp), hrsm.1.bs⟩, ?_⟩
  cbv
  refine ⟨fun h6 => ?_, fun _ => ?_⟩
  · have h6 := h6.out
    have h6 : (!(r.out == r.out)) = true := h6
    simp at h6
  cbv
  refine ⟨fun h6 => ?_, fun _ => ?_⟩
  · have h6 := h6.out
    have h6 : (!eqB ((recL l rp).ins.length : Int) (IntKind.i64.wrap (((lkF x.k x.b).ins.length : Int) + IntKind.i64.wrap ((recL l rp).got - (lkF x.k x.b).got)))) = true := h6
    rw [← hrr, ← hl, ← hmm, hwg, show (r.ins.length : Int) = IntKind.i64.wrap ((l.ins.length : Int) + mm) from hins] at h6
    simp [eqB] at h6
  cbv
  refine ⟨⟨l.ins, r.ins⟩, ⟨by dsimp only; rw [← hrr, ← hl]; ((repeat' first | exact LeL.nil | exact Le.refl _ | refine LeL.cons ?_ ?_ | exact Le.ic rfl | exact Le.bc rfl | exact Le.i rfl | exact Le.b rfl | exact Le.sl rfl | exact Le.nils rfl (fun _ => ⟨trivial, trivial⟩) | refine Le.lst rfl (fun _ _ => rfl) (fun _ => ⟨trivial, trivial⟩) ?_ | refine Le.lst rfl (fun _ _ => rfl) (fun _ => ⟨fun _ => ⟨trivial, trivial⟩, trivial⟩) ?_ | exact Le.nils rfl (fun _ => ⟨fun _ => ⟨trivial, trivial⟩, trivial⟩) | refine Le.agg ?_ | refine Le.tup ?_ | exact Le.any _)), hsm.2.bs⟩, ?_⟩
  cbv
  refine ⟨fun h6 => ?_, fun _ => ?_⟩
  · have h6 := h6.out
    have h6 : (!(pre l.ins r.ins)) = true := h6
    rw [hpre] at h6; cases h6
  cbv
  refine ⟨r, ⟨by dsimp only; rw [← hrr]; ((repeat' first | exact LeL.nil | exact Le.refl _ | refine LeL.cons ?_ ?_ | exact Le.ic rfl | exact Le.bc rfl | exact Le.i rfl | exact Le.b rfl | exact Le.sl rfl | exact Le.nils rfl (fun _ => ⟨trivial, trivial⟩) | refine Le.lst rfl (fun _ _ => rfl) (fun _ => ⟨trivial, trivial⟩) ?_ | refine Le.lst rfl (fun _ _ => rfl) (fun _ => ⟨fun _ => ⟨trivial, trivial⟩, trivial⟩) ?_ | exact Le.nils rfl (fun _ => ⟨fun _ => ⟨trivial, trivial⟩, trivial⟩) | refine Le.agg ?_ | refine Le.tup ?_ | exact Le.any _)), by have := hrsm.1.n; omega, by have := hrsm.2.n; omega⟩, ?_⟩
  cbv
  refine ⟨fun h6 => ?_, fun _ => ?_⟩
  · have h6 := h6.out
    have h6 : (!r.valid) = true := h6
    rw [hval] at h6; cases h6
  cbv
  refine ⟨fun h6 => ?_, fun h6 => ?_⟩
  · cbv
    exact ⟨.refl _⟩
  have h6 : eqB (IntKind.i64.wrap ((recL l rp).got - (lkF x.k x.b).got)) 0 = false := h6.out
  rw [← hrr, ← hl, ← hmm, hwg] at h6
  have hm1 : mm = 1 := by simp [eqB] at h6; omega
  have hg : r.ins = l.ins ++ [rp.data] ∧ rp.seq = l.got := by
    rcases hD.g with e | e
    · omega
    · exact e.2
  have hget : r.ins[l.ins.length]? = some x.p.data := by rw [hg.1, hrp]; simp
  have hsq : eqB x.p.seq (lkF x.k x.b).got = true := by rw [← hl]; have := hg.2; rw [hrp] at this; simpa [eqB] using this
  cbv
  refine ⟨fun _ => ?_, fun h6 => ?_⟩
  rotate_left
  · have h6 : eqB x.p.seq (lkF x.k x.b).got = false := h6.out
    rw [hsq] at h6; cases h6
  cbv
  refine ⟨x.p.data, ⟨Int.natCast_nonneg _, by show (recL l rp).ins[((lkF x.k x.b).ins.length : Int).toNat]? = some x.p.data; rw [← hrr, ← hl]; exact hget⟩, ?_⟩
  cbv
  refine ⟨⟨x.p.data, x.p.data⟩, ⟨by ((repeat' first | exact LeL.nil | exact Le.refl _ | refine LeL.cons ?_ ?_ | exact Le.ic rfl | exact Le.bc rfl | exact Le.i rfl | exact Le.b rfl | exact Le.sl rfl | exact Le.nils rfl (fun _ => ⟨trivial, trivial⟩) | refine Le.lst rfl (fun _ _ => rfl) (fun _ => ⟨trivial, trivial⟩) ?_ | refine Le.lst rfl (fun _ _ => rfl) (fun _ => ⟨fun _ => ⟨trivial, trivial⟩, trivial⟩) ?_ | exact Le.nils rfl (fun _ => ⟨fun _ => ⟨trivial, trivial⟩, trivial⟩) | refine Le.agg ?_ | refine Le.tup ?_ | exact Le.any _)), by show x.p.data.length < 2305843009213693952; omega⟩, ?_⟩
  cbv
  refine ⟨fun _ => ?_, fun h6 => ?_⟩
  rotate_left
  · have h6 := h6.out
    have h6 : (x.p.data == x.p.data) = false := h6
    simp at h6
  cbv
  exact ⟨.refl _⟩
end Go.Proofs.Tran
