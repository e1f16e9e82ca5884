/-
  The transport's plain law, first part: links that are valid.
-/
import Derived.Test.YtcejljfammcflaaTranK
set_option linter.unusedVariables false
set_option linter.unusedSimpArgs false
namespace Go.Proofs.Tran
open Go Go.Vc

/-- What is known of a valid link. -/
structure Lk.Ok (l : Lk) : Prop where
  o : l.out.length ≤ 32
  i : l.ins.length ≤ 64
  so : ∀ b ∈ l.out, b.length ≤ 256
  si : ∀ b ∈ l.ins, b.length ≤ 256
  b : 0 ≤ l.base
  b1 : l.base ≤ 1000000000 - (l.out.length : Int)
  g : (l.ins.length : Int) ≤ l.got
  g1 : l.got ≤ 1000000000
theorem short_iff {l : List (List Int)} : short l = true ↔ ∀ b ∈ l, b.length ≤ 256 := by
  rw [short, List.all_eq_true]
  simp
theorem valid_iff (l : Lk) : l.valid = true ↔ l.Ok := by
  simp only [Lk.valid, leB, Bool.and_eq_true, decide_eq_true_eq, short_iff]
  constructor
  · rintro ⟨⟨⟨⟨⟨⟨⟨h1, h2⟩, h3⟩, h4⟩, h5⟩, h6⟩, h7⟩, h8⟩
    exact ⟨h1, h2, h3, h4, h5, h6, h7, h8⟩
  · rintro ⟨h1, h2, h3, h4, h5, h6, h7, h8⟩
    exact ⟨⟨⟨⟨⟨⟨⟨h1, h2⟩, h3⟩, h4⟩, h5⟩, h6⟩, h7⟩, h8⟩
theorem Lk.Ok.sm {l : Lk} (h : l.Ok) : Sm l.out ∧ Sm l.ins :=
  ⟨⟨by have := h.o; omega, fun b hb => by have := h.so b hb; omega⟩, ⟨by have := h.i; omega, fun b hb => by have := h.si b hb; omega⟩⟩
theorem Lk.Ok.lp {l : Lk} (h : l.Ok) {p : Pk} (hd : p.data.length ≤ 1000000) (ha : p.ack ≤ 9223372036854775807) : LP.Ok ⟨l, p⟩ :=
  ⟨h.sm.1, h.sm.2, hd, ha, h.b, by have := h.b1; simp only; omega, by have := h.g; simp only; omega, h.g1⟩

theorem oiN_short (b : List Int) : ∀ i, (∀ c ∈ (oiN b i).1, c.length ≤ 4) ∧ (∀ c ∈ (oiN b i).2, c.length ≤ 4)
  | 0 => by simp [oiN]
  | i + 1 => by
    have h := oiN_short b i
    unfold oiN
    split
    · refine ⟨fun c hc => ?_, h.2⟩
      rcases List.mem_append.1 hc with hc | hc
      · exact h.1 c hc
      · simp at hc; subst hc; simp; omega
    · refine ⟨h.1, fun c hc => ?_⟩
      rcases List.mem_append.1 hc with hc | hc
      · exact h.2 c hc
      · simp at hc; subst hc; simp; omega
theorem getD_u8 {b : List Int} (hb : ∀ v ∈ b, 0 ≤ v ∧ v < 256) (i : Nat) : 0 ≤ b.getD i 0 ∧ b.getD i 0 < 256 := by
  rw [List.getD_eq_getElem?_getD]
  cases h : b[i]? with
  | none => simp
  | some v => exact hb v (List.mem_of_getElem? h)
theorem lkF_ok (k : Int) {b : List Int} (hb : ∀ v ∈ b, 0 ≤ v ∧ v < 256) : (lkF k b).Ok := by
  have h1 := oiN_len b (min b.length 40)
  have h2 := oiN_short b (min b.length 40)
  have b0 := getD_u8 hb 0
  have b1 := getD_u8 hb 1
  have fin : ∀ (base got : Int), 0 ≤ base → base ≤ 1000000000 - ((oiN b (min b.length 40)).1.length : Int) → ((oiN b (min b.length 40)).2.length : Int) ≤ got → got ≤ 1000000000 →
      Lk.Ok ⟨k, (oiN b (min b.length 40)).1, base, (oiN b (min b.length 40)).2, got⟩ := fun base got g1 g2 g3 g4 =>
    ⟨h1.2.2, by simp only; omega, fun c hc => by have := h2.1 c hc; omega, fun c hc => by have := h2.2 c hc; omega, g1, g2, g3, g4⟩
  unfold lkF
  simp only
  split
  · split
    · exact fin _ _ (by omega) (by omega) (by omega) (by omega)
    · exact fin _ _ (by omega) (by omega) (by omega) (by omega)
  · exact fin _ _ (by omega) (by omega) (by omega) (by omega)
/-- Of a valid link, the reference sends as the program does. -/
theorem snd_ref {l : Lk} (h : l.Ok) (d : List Int) : sndLR l d = sndL l d ∧ sndER l d = sndE l d := by
  have hw : IntKind.i64.wrap (l.base + (l.out.length : Int)) = l.base + (l.out.length : Int) := w64 (by have := h.b; omega) (by have := h.b1; omega)
  have : sndBadR l d = sndBad l d := by
    unfold sndBadR sndBad
    rw [hw]
    have := h.o
    have := h.b1
    congr 1
    · congr 1
      rw [Bool.eq_iff_iff]
      simp only [eqB, leB, beq_iff_eq, decide_eq_true_eq]
      omega
    · rw [Bool.eq_iff_iff]
      simp only [eqB, leB, beq_iff_eq, decide_eq_true_eq]
      omega
  simp [sndLR, sndL, sndER, sndE, this]
theorem sndL_ok {l : Lk} (h : l.Ok) {d : List Int} : (sndL l d).Ok := by
  unfold sndL
  split
  · exact ⟨by simp [Lk0], by simp [Lk0], by simp [Lk0], by simp [Lk0], by simp [Lk0], by simp [Lk0], by simp [Lk0], by simp [Lk0]⟩
  · rename_i hb
    have hw : IntKind.i64.wrap (l.base + (l.out.length : Int)) = l.base + (l.out.length : Int) := w64 (by have := h.b; omega) (by have := h.b1; omega)
    simp only [sndBad, hw, ltB, leB, Bool.or_eq_true, decide_eq_true_eq, not_or, Int.not_le, Int.not_lt] at hb
    obtain ⟨⟨h1, h2⟩, h3⟩ := hb
    refine ⟨by simp; omega, h.i, fun b hb => ?_, h.si, h.b, by simp; omega, h.g, h.g1⟩
    rcases List.mem_append.1 hb with hb | hb
    · exact h.so b hb
    · simp at hb; subst hb; omega
theorem Lk0_ok : Lk0.Ok := ⟨by simp [Lk0], by simp [Lk0], by simp [Lk0], by simp [Lk0], by simp [Lk0], by simp [Lk0], by simp [Lk0], by simp [Lk0]⟩
theorem takL_ok {l : Lk} (h : l.Ok) : (takL l).Ok := by
  unfold takL
  split
  · exact Lk0_ok
  · refine ⟨h.o, by simp; have := h.i; omega, h.so, fun b hb => h.si b (List.mem_of_mem_tail hb), h.b, h.b1, by simp; have := h.g; omega, h.g1⟩
theorem recv_ok {l : Lk} (h : l.Ok) {p : Pk} (hp : AccOk l p) : (recv l p).Ok := by
  have hA : (recA l p).Ok := by
    unfold recA
    split
    · rename_i hlt
      have := hp.o
      have := h.b1
      refine ⟨by simp; have := h.o; omega, h.i, fun b hb => h.so b (List.mem_of_mem_drop hb), h.si, by simp only; have := h.b; omega, ?_, h.g, h.g1⟩
      simp only [List.length_drop]
      omega
    · exact h
  unfold recv recB
  split
  · rename_i hc
    have hg := recA_got l p
    rw [hg.1, hg.2] at hc
    refine ⟨hA.o, by simp only [List.length_append, hg.2, List.length_cons, List.length_nil]; omega, hA.so, fun b hb => ?_, hA.b, hA.b1, ?_, ?_⟩
    · rcases List.mem_append.1 hb with hb | hb
      · exact hA.si b hb
      · simp at hb; subst hb; exact hp.d
    · simp only [List.length_append, hg.1, hg.2, List.length_cons, List.length_nil]; have := h.g; omega
    · simp only [hg.1]; omega
  · exact hA
theorem recL_ok {l : Lk} (h : l.Ok) (p : Pk) : (recL l p).Ok := by
  unfold recL
  split
  · rename_i hp; exact recv_ok h (accB_ok hp)
  · exact Lk0_ok
end Go.Proofs.Tran
